/- The walk of batch.Decode. -/
import Derived.Test.YtoaecmaphpnolaaWOne
import Derived.Test.YtoaecmaphpnolaaWBx
namespace Go.Proofs.Ytoaecmaphpnolaa
open Go.RowKit
set_option linter.unusedVariables false

theorem P.readOps_snoc : ∀ (n : Nat) (s : List UInt8) (l : List P.Op) (m : Nat), P.readOps n s = some (l, m) → P.readOps (n + 1) s = match P.readOp (s.drop m) with
    | none => none
    | some (o, j) => some (l ++ [o], m + j)
  | 0, s, l, m, h => by
    simp only [P.readOps, Option.some.injEq, Prod.mk.injEq] at h
    obtain ⟨rfl, rfl⟩ := h
    simp only [P.readOps, List.drop_zero]
    cases P.readOp s with
    | none => rfl
    | some q => simp
  | n + 1, s, l, m, h => by
    unfold P.readOps at h
    cases ho : P.readOp s with
    | none => rw [ho] at h; cases h
    | some q =>
      obtain ⟨o, k⟩ := q
      rw [ho] at h
      simp only at h
      cases hr : P.readOps n (s.drop k) with
      | none => rw [hr] at h; cases h
      | some q =>
        obtain ⟨l', m'⟩ := q
        rw [hr] at h
        simp only [Option.some.injEq, Prod.mk.injEq] at h
        obtain ⟨rfl, rfl⟩ := h
        have ih := P.readOps_snoc n _ l' m' hr
        rw [List.drop_drop] at ih
        show (match P.readOp s with | none => none | some (o, k) => match P.readOps (n + 1) (s.drop k) with | none => none | some (l, m) => some (o :: l, k + m)) = _
        rw [ho]
        simp only [ih]
        cases P.readOp (s.drop (k + m')) with
        | none => rfl
        | some q => simp [Nat.add_assoc]
theorem P.readOps_none : ∀ (n k : Nat) (s : List UInt8), k ≤ n → P.readOps k s = none → P.readOps n s = none
  | n, 0, s, _, h => by simp [P.readOps] at h
  | 0, k + 1, s, hk, _ => by omega
  | n + 1, k + 1, s, hk, h => by
    unfold P.readOps at h ⊢
    cases ho : P.readOp s with
    | none => rfl
    | some q =>
      obtain ⟨o, j⟩ := q
      rw [ho] at h
      simp only at h ⊢
      cases hr : P.readOps k (s.drop j) with
      | none => rw [P.readOps_none n k _ (by omega) hr]
      | some q => rw [hr] at h; cases h

abbrev opCells (o : P.Op) : List Value := [S o.key, S o.val, .bool o.gone]
theorem opCells_len (o : P.Op) : (opCells o).length = 3 := rfl
theorem opCells_one (o : P.Op) : ∀ u ∈ opCells o, u.oneCell' = true := by
  intro u hu
  simp at hu
  rcases hu with rfl | rfl | rfl <;> rfl
theorem OpsAt.of {w : World} {a : Option Addr} {l : List P.Op} (h : RowsAt 3 opCells w a l) : OpsAt w a l := by
  intro i hi
  obtain ⟨b, o, rfl, hlt, hc⟩ := h i hi
  exact ⟨b, o, rfl, hlt, hc 0 (by omega), hc 1 (by omega), hc 2 (by omega)⟩
abbrev OwnOps (w : World) (B : Nat) (v : Value) (l : List P.Op) : Prop := OwnR 24 3 opCells w B v l
theorem infoOp : (Try.prog.info? 24).map (fun i => (i.zero, i.size, i.bytes)) = some (some (.agg #[.string ByteArray.empty, .string ByteArray.empty, .bool false]), 3, 40) := by kernel_rfl
/-- 'append(l, o)'. -/
theorem wpList_pushOp {ops : Array Oper} {rest : List Oper} {o : Oper} {a : Act} {w : World} {Q : Exit → Act → World → Prop} (hgd : o.guard = none) (s x : Operand)
    (ho : o.op = .call { callee := .builtin .append, args := #[s, x], argTypes := #[22, 22] }) (B : Nat) (v : Value) (l : List P.Op) (c : P.Op) (hs : a.eval s = v) (hown : OwnOps w B v l) (hl : l.length < 100000)
    (hx : a.eval x = .slice (some ⟨w.heap.size, 0, none⟩) 1 1) (hB : B ≤ w.heap.size)
    (h : ∀ v' w', OwnOps w' B v' (l ++ [c]) → Below B w w' → wpList Try.prog ops Q rest (a.put o.dst v') w') :
    wpList Try.prog ops Q (o :: rest) a (w.alloc (.cells #[S c.key, S c.val, .bool c.gone] 24)) := by
  obtain ⟨i, hq, h1, h2, h3⟩ := info_parts infoOp
  exact wpList_pushR hgd s x 22 ho i _ 40 Try.underlying22 hq h1 h2 h3 rfl (by decide) opCells_len opCells_one c hs hown hl (by decide) _ rfl hx hB h

abbrev noBatch : Value := .tuple #[.agg #[.int .u64 0, .slice none 0 0], .bool false]
/-- What Decode gives back. -/
def DecR (r : Option (Nat × List P.Op)) (e : Ending) (w : World) : Prop := match r with
  | none => e = .returned noBatch
  | some (seq, l) => ∃ a c, e = .returned (.tuple #[batchV seq a l.length c, .bool true]) ∧ OpsAt w a l

attribute [local go_sem] str_take str_dropN

set_option maxRecDepth 100000 in
set_option maxHeartbeats 4000000 in
theorem decode_no1 (s : List UInt8) (w : World) (hs : s.length ≤ 1000000) (hno : P.rOk s = false) :
    Calls Try.prog 12 #[S s] w fun e w' => e = .returned noBatch ∧ Below w.heap.size w w' := by
  have HV := Lib.hid (fun w => readVar_any s w (by omega))
  rw [hno] at HV
  generalize P.rNum s = nn at *
  generalize P.rSize s = ss at *
  go_enter Try.func12, Try.ntmps12
  go_wp2_with (go_at_call 30; (with_reducible refine (HV.out _).mono ?_); rintro e w1 ⟨rfl, hb1⟩; have hbx := (Bx.fresh w _ _).up hb1; obtain ⟨x0, x1, f0, f1⟩ := hbx.two)
  obtain ⟨y0, y1, g0, g1⟩ := (hbx.set2 (.int .u64 0) (.slice none 0 0)).two
  have hc1 : Below w.heap.size w w1 := ((Below.refl _ _).alloc (Nat.le_refl _) _).trans (hb1.mono (by simp))
  exact bodyPost_ret (v := noBatch) (by simp [results, Try.results12, go_sem, y0, y1]) rfl ⟨rfl, below_set2 hc1 (Nat.le_refl _) _ _⟩
set_option maxRecDepth 100000 in
set_option maxHeartbeats 4000000 in
theorem decode_no2 (s : List UInt8) (w : World) (hs : s.length ≤ 1000000) (hok : P.rOk s = true) (hno : ¬ (P.rOk (s.drop (P.rSize s)) = true ∧ P.rNum (s.drop (P.rSize s)) ≤ 16)) :
    Calls Try.prog 12 #[S s] w fun e w' => e = .returned noBatch ∧ Below w.heap.size w w' := by
  have HV := Lib.hid (fun w => readVar_any s w (by omega))
  have HU := Lib.hid (fun w => readVar_any (s.drop (P.rSize s)) w (by rw [List.length_drop]; omega))
  have hsz := (P.row_read s hok).2.1
  rw [hok] at HV
  generalize P.rNum s = nn at *
  generalize P.rSize s = ss at *
  generalize P.rSize (s.drop ss) = su at *
  cases hoku : P.rOk (s.drop ss) with
  | false =>
    rw [hoku] at HU
    generalize P.rNum (s.drop ss) = nu at *
    clear hno hoku hok
    go_enter Try.func12, Try.ntmps12
    go_wp2_with (first
      | (go_at_call 30; (with_reducible refine (HV.out _).mono ?_); rintro e w1 ⟨rfl, hb1⟩; have hbx1 := (Bx.fresh w _ _).up hb1)
      | (go_at_call 30; (with_reducible refine (HU.out _).mono ?_); rintro e w2 ⟨rfl, hb2⟩; have hbx := hbx1.up hb2; obtain ⟨x0, x1, f0, f1⟩ := hbx.two))
    obtain ⟨y0, y1, g0, g1⟩ := (hbx.set2 (.int .u64 0) (.slice none 0 0)).two
    have hc1 : Below w.heap.size w w1 := ((Below.refl _ _).alloc (Nat.le_refl _) _).trans (hb1.mono (by simp))
    exact bodyPost_ret (v := noBatch) (by simp [results, Try.results12, go_sem, y0, y1]) rfl ⟨rfl, below_set2 (Chain.up hc1 hb2) (Nat.le_refl _) _ _⟩
  | true =>
    rw [hoku] at HU
    have hnu : ¬ P.rNum (s.drop ss) ≤ 16 := fun h => hno ⟨hoku, h⟩
    generalize P.rNum (s.drop ss) = nu at *
    have hni : (16 : Int) < (nu : Int) := by omega
    clear hno hoku hok
    go_enter Try.func12, Try.ntmps12
    go_wp2_with (first
      | (go_at_call 30; (with_reducible refine (HV.out _).mono ?_); rintro e w1 ⟨rfl, hb1⟩; have hbx1 := (Bx.fresh w _ _).up hb1)
      | (go_at_call 30; (with_reducible refine (HU.out _).mono ?_); rintro e w2 ⟨rfl, hb2⟩; have hbx := hbx1.up hb2; obtain ⟨x0, x1, f0, f1⟩ := hbx.two))
    obtain ⟨y0, y1, g0, g1⟩ := (hbx.set2 (.int .u64 0) (.slice none 0 0)).two
    have hc1 : Below w.heap.size w w1 := ((Below.refl _ _).alloc (Nat.le_refl _) _).trans (hb1.mono (by simp))
    exact bodyPost_ret (v := noBatch) (by simp [results, Try.results12, go_sem, y0, y1]) rfl ⟨rfl, below_set2 (Chain.up hc1 hb2) (Nat.le_refl _) _ _⟩

/-- What is read behind the two numbers. -/
def P.decTail (seq n : Nat) (t : List UInt8) : Option (Nat × List P.Op) := match P.readOps n t with
  | none => none
  | some (l, m) => if m = t.length ∧ P.chk seq l = 0 then some (seq, l) else none
theorem P.dec_tail (s : List UInt8) (h1 : P.rOk s = true) (h2 : P.rOk (s.drop (P.rSize s)) = true) (h3 : P.rNum (s.drop (P.rSize s)) ≤ 16) :
    P.dec s = P.decTail (P.rNum s) (P.rNum (s.drop (P.rSize s))) (s.drop (P.rSize s + P.rSize (s.drop (P.rSize s)))) := by
  have a := (P.row_read s h1).2.1
  have b := (P.row_read _ h2).2.1
  rw [List.length_drop] at b
  unfold P.dec P.decTail
  rw [if_pos ⟨h1, h2, h3⟩]
  cases P.readOps (P.rNum (s.drop (P.rSize s))) (s.drop (P.rSize s + P.rSize (s.drop (P.rSize s)))) with
  | none => rfl
  | some q =>
    obtain ⟨l, m⟩ := q
    simp only [List.length_drop]
    by_cases h : m = s.length - (P.rSize s + P.rSize (s.drop (P.rSize s))) ∧ P.chk (P.rNum s) l = 0
    · rw [if_pos h, if_pos ⟨by omega, h.2⟩]
    · rw [if_neg h, if_neg (fun hh => h ⟨by omega, hh.2⟩)]

set_option maxRecDepth 100000 in
set_option maxHeartbeats 8000000 in
theorem decode_loop (s : List UInt8) (w : World) (hs : s.length ≤ 1000000) (hok : P.rOk s = true) (hok2 : P.rOk (s.drop (P.rSize s)) = true) (hn16 : P.rNum (s.drop (P.rSize s)) ≤ 16) :
    Calls Try.prog 12 #[S s] w fun e w' => DecR (P.dec s) e w' ∧ Below w.heap.size w w' := by
  have HD := Lib.hid (P.dec_tail s hok hok2 hn16)
  have HV := Lib.hid (fun w => readVar_any s w (by omega))
  have HU := Lib.hid (fun w => readVar_any (s.drop (P.rSize s)) w (by rw [List.length_drop]; omega))
  have hsz := (P.row_read s hok).2.1
  have hsu := (P.row_read _ hok2).2.1
  rw [List.length_drop] at hsu
  have hseq : P.rNum s < 18446744073709551616 := (P.row_read s hok).2.2.2
  rw [hok] at HV
  rw [hok2] at HU
  generalize P.dec s = res at *
  generalize P.rNum s = seq at *
  generalize P.rSize s = ss at *
  generalize P.rNum (s.drop ss) = nn at *
  generalize P.rSize (s.drop ss) = su at *
  clear hok hok2
  have hadd : ss + su ≤ s.length := by omega
  have hnni : (nn : Int) ≤ 16 := by omega
  have Hseq := Lib.hid hseq
  clear hseq
  go_enter Try.func12, Try.ntmps12
  go_wp2_with (first
      | (go_at_call 30; (with_reducible refine (HV.out _).mono ?_); rintro e w1 ⟨rfl, hb1⟩; have hbx1 := (Bx.fresh w _ _).up hb1)
      | (go_at_call 30; (with_reducible refine (HU.out _).mono ?_); rintro e w2 ⟨rfl, hb2⟩; have hbx := hbx1.up hb2))
  have hbb := Bx.fresh w2 27 #[.int .u64 (seq : Int), .slice none 0 0]
  have hbx0 := hbx.up ((Below.refl w2.heap.size w2).alloc (Nat.le_refl _) (.cells #[.int .u64 (seq : Int), .slice none 0 0] 27))
  have hc1 : Below w.heap.size w w1 := ((Below.refl _ _).alloc (Nat.le_refl _) _).trans (hb1.mono (by simp))
  have hc2 := Chain.up hc1 hb2
  have hc3 := hc2.alloc hc2.size (.cells #[.int .u64 (seq : Int), .slice none 0 0] 27)
  have hlt0 : w.heap.size < w2.heap.size := hbx.lt
  have Hl0 := Lib.hid hlt0
  clear hbx hbx1 hb1 hb2 hc1 hlt0
  have htl : (s.drop (ss + su)).length ≤ 1000000 := by rw [List.length_drop]; omega
  generalize s.drop (ss + su) = t at *
  go_loopw [0, 7] (fun v z wr => ∃ (n k m : Nat) (l : List P.Op) (u : Value), n + k = nn ∧ v = S (t.drop m) ∧ z = V64 n ∧ P.readOps k t = some (l, m) ∧
      Bx wr w.heap.size 27 #[.int .u64 0, .slice none 0 0] ∧ Bx wr w2.heap.size 27 #[.int .u64 (seq : Int), u] ∧ OwnOps wr (w2.heap.size + 1) u l ∧ w2.heap.size + 1 ≤ wr.heap.size ∧ Below w.heap.size w wr) (fun _ z _ => (intOf z).toNat)
  case atStart => exact ⟨nn, 0, 0, [], _, by omega, by rw [List.drop_zero], rfl, rfl, hbx0, hbb, ownR_nil _ _, by simp, hc3⟩
  case round =>
    clear hbb hbx0 hc2 hc3
    obtain ⟨n, k, m, l, u, hnk, rfl, rfl, hro, hbx, hbb, hown, hsz1, hb⟩ := hrel
    obtain ⟨hlk, hmt, _⟩ := P.readOps_some _ _ _ _ hro
    have HO := Lib.hid (fun wx => one_any (t.drop m) wx (by rw [List.length_drop]; omega))
    have Hsz1 := Lib.hid hsz1
    have hl16 : l.length < 100000 := by omega
    obtain ⟨x0, x1, f0, f1⟩ := hbx.two
    obtain ⟨y0, y1, g0, g1⟩ := hbb.two
    cases n with
    | zero =>
      obtain rfl : k = nn := by omega
      obtain ⟨ad, cc, hu, hops, _⟩ := hown.is opCells_len
      subst hu
      have Hops := Lib.hid (OpsAt.of hops)
      clear hops
      have HC := Lib.hid (fun wx (hx : Below wr.heap.size wr wx) => check_of seq ad cc l wx Hseq.out (by omega) (Hops.out.up hx))
      rw [hlk] at HC
      have Hdt := Lib.hid (show res = if m = t.length ∧ P.chk seq l = 0 then some (seq, l) else none by
        rw [HD.out]; unfold P.decTail; rw [hro])
      clear hro HO
      by_cases hm : m = t.length
      · have hnb : (t.drop m == []) = true := by rw [hm, List.drop_length]; rfl
        by_cases hck : P.chk seq l = 0
        · have Hn := Lib.hid (show res = some (seq, l) by rw [Hdt.out, if_pos ⟨hm, hck⟩])
          rw [hck] at HC
          clear hm hck Hdt HD
          go_wp2_with (go_at_call 10; (with_reducible refine (HC.out _ (Below.refl _ _)).mono ?_); rintro e w3 ⟨rfl, hb3⟩; have hbx3 := hbx.up hb3; have hbb3 := hbb.up hb3; obtain ⟨x0', x1', f0', f1'⟩ := hbx3.two; obtain ⟨y0', y1', g0', g1'⟩ := hbb3.two)
          obtain ⟨z0, z1, _, _⟩ := (hbx3.set2 (.int .u64 seq) (.slice ad k cc)).two
          exact bodyPost_ret (v := .tuple #[batchV seq ad k cc, .bool true]) (by simp [results, Try.results12, go_sem, z0, z1]) rfl ⟨by rw [Hn.out]; exact ⟨ad, cc, by rw [hlk], OpsAt.of ((((OwnR.up hown hb3).other (Nat.lt_succ_of_lt Hl0.out) 0 _).other (Nat.lt_succ_of_lt Hl0.out) 1 _).at opCells_len)⟩, below_set2 (Chain.up hb hb3) (Nat.le_refl _) _ _⟩
        · have Hn := Lib.hid (show res = none by rw [Hdt.out, if_neg (fun h => hck h.2)])
          have hckb : ((P.chk seq l : Int) == 0) = false := beq_eq_false_iff_ne.2 (by omega)
          generalize P.chk seq l = ck at *
          clear hm hck Hdt HD
          go_wp2_with (go_at_call 10; (with_reducible refine (HC.out _ (Below.refl _ _)).mono ?_); rintro e w3 ⟨rfl, hb3⟩; have hbx3 := hbx.up hb3; obtain ⟨x0', x1', f0', f1'⟩ := hbx3.two)
          obtain ⟨z0, z1, _, _⟩ := (hbx3.set2 (.int .u64 0) (.slice none 0 0)).two
          exact bodyPost_ret (v := noBatch) (by simp [results, Try.results12, go_sem, z0, z1]) rfl ⟨by rw [Hn.out]; rfl, below_set2 (Chain.up hb hb3) (Nat.le_refl _) _ _⟩
      · have hnb : (t.drop m == []) = false := beq_eq_false_iff_ne.2 (fun h => hm (by have := List.drop_eq_nil_iff.1 h; omega))
        have Hn := Lib.hid (show res = none by rw [Hdt.out, if_neg (fun h => hm h.1)])
        clear hm Hdt HD
        go_wp2
        obtain ⟨z0, z1, _, _⟩ := (hbx.set2 (.int .u64 0) (.slice none 0 0)).two
        exact bodyPost_ret (v := noBatch) (by simp [results, Try.results12, go_sem, z0, z1]) rfl ⟨by rw [Hn.out]; rfl, below_set2 hb (Nat.le_refl _) _ _⟩
    | succ n =>
      have hpos : (0 : Int) < ((n + 1 : Nat) : Int) := by omega
      have Hsn := Lib.hid (P.readOps_snoc k t l m hro)
      cases ho : P.readOp (t.drop m) with
      | none =>
        have Hn := Lib.hid (show res = none by
          rw [HD.out]
          unfold P.decTail
          have h1 := Hsn.out
          rw [ho] at h1
          rw [P.readOps_none nn (k + 1) t (by omega) h1])
        rw [show P.oneV (t.drop m) = noOne by unfold P.oneV; rw [ho]] at HO
        clear ho Hsn hnk hro hlk
        go_wp2_with (go_at_call 31; (with_reducible refine (HO.out _).mono ?_); rintro e w3 ⟨rfl, hb3⟩; have hb4 := Chain.up hb hb3; have hba := (Below.refl w3.heap.size w3).alloc (Nat.le_refl _) (.cells #[S [], S [], .bool false] 24); have hbx4 := (hbx.up hb3).up hba; have hb5 := Chain.up hb4 hba; obtain ⟨x0', x1', f0', f1'⟩ := hbx4.two)
        obtain ⟨z0, z1, _, _⟩ := (hbx4.set2 (.int .u64 0) (.slice none 0 0)).two
        exact bodyPost_ret (v := noBatch) (by simp [results, Try.results12, go_sem, z0, z1]) rfl ⟨by rw [Hn.out]; rfl, below_set2 hb5 (Nat.le_refl _) _ _⟩
      | some q =>
        obtain ⟨o, j⟩ := q
        have Hn := Lib.hid (show P.readOps (k + 1) t = some (l ++ [o], m + j) by
          have h1 := Hsn.out
          rw [ho] at h1
          exact h1)
        rw [show P.oneV (t.drop m) = .tuple #[opV o, S (t.drop (m + j)), .bool true] by unfold P.oneV; rw [ho]; simp] at HO
        clear ho Hsn hro
        obtain ⟨kk, vv, gg⟩ := o
        go_wp2_with (first
          | (go_at_call 31; (with_reducible refine (HO.out _).mono ?_); rintro e w3 ⟨rfl, hb3⟩; have hb4 := Chain.up hb hb3; have hba := (Below.refl w3.heap.size w3).alloc (Nat.le_refl _) (.cells #[S kk, S vv, .bool gg] 24); have hbx4 := (hbx.up hb3).up hba; have hbb4 := (hbb.up hb3).up hba; have hown4 := (hown.up hb3).up hba; have hb5 := Chain.up hb4 hba; obtain ⟨x0', x1', f0', f1'⟩ := hbx4.two; obtain ⟨y0', y1', g0', g1'⟩ := hbb4.two; have hs5 : w2.heap.size + 1 ≤ w3.heap.size := Nat.le_trans hsz1 hb3.size; have hs6 := Nat.le_trans hs5 hba.size)
          | (at_builtin; go_loud (refine wpList_pushOp (by rfl) _ _ (by rfl) (w2.heap.size + 1) _ l ⟨kk, vv, gg⟩ (by rfl) hown4 hl16 ?hx hs6 ?_; (case hx => (show Value.slice (some ⟨_, 0, none⟩) 1 1 = _); simp); intro v' w4 hown5 hb6; obtain ⟨ad, cc, hv', _, _⟩ := hown5.is opCells_len; subst hv'; have hbx6 := hbx4.below hb6 (Nat.lt_succ_of_lt Hl0.out); have hbb6 := hbb4.below hb6 (Nat.lt_succ_self _); obtain ⟨x0'', x1'', f0'', f1''⟩ := hbx6.two; obtain ⟨y0'', y1'', g0'', g1''⟩ := hbb6.two)))
        go_roundw
        case rel => exact ⟨n, k + 1, m + j, l ++ [(⟨kk, vv, gg⟩ : P.Op)], .slice ad (l ++ [(⟨kk, vv, gg⟩ : P.Op)]).length cc, by omega, rfl, rfl, Hn.out,
          by simpa [hlk] using hbx6.other (Nat.ne_of_gt Hl0.out) 1 (.slice ad (k + 1) cc), by simpa [hlk] using hbb6.set 1 (.slice ad (k + 1) cc), OwnR.other hown5 (Nat.lt_succ_self _) 1 _,
          Nat.le_trans hs6 (Nat.le_trans hb6.size ((Below.refl w2.heap.size w4).setCell (Nat.le_refl _) _).size), (hb5.trans (hb6.mono (by have := Hl0.out; omega))).setCell (Nat.le_of_lt Hl0.out) _⟩
        case measure => simp [intOf]
end Go.Proofs.Ytoaecmaphpnolaa
