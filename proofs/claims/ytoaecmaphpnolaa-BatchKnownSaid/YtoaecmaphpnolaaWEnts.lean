/- The walks of the two Entries. -/
import Derived.Test.YtoaecmaphpnolaaWDec
import Derived.StillTailTactics
import Derived.Deep.RegionHeld3
import Derived.Deep.AppendLies
namespace Go.Proofs.Ytoaecmaphpnolaa
open Go.RowKit
set_option linter.unusedVariables false

/-- The operations with their numbers. -/
def P.ents (seq : Nat) (l : List P.Op) : List (P.Op × Nat) := l.mapIdx fun i o => (o, (seq + i) % 18446744073709551616)
theorem P.ents_len (seq : Nat) (l : List P.Op) : (P.ents seq l).length = l.length := by simp [P.ents]
theorem P.ents_snoc (seq : Nat) (l : List P.Op) (o : P.Op) : P.ents seq (l ++ [o]) = P.ents seq l ++ [(o, (seq + l.length) % 18446744073709551616)] := by simp [P.ents]
theorem P.ents_at (seq : Nat) (l : List P.Op) (i : Nat) (h : i < l.length) : (P.ents seq l)[i]'(by rw [P.ents_len]; exact h) = (l[i], (seq + i) % 18446744073709551616) := by simp [P.ents]
abbrev entCells (x : P.Op × Nat) : List Value := [S x.1.key, S x.1.val, V64 x.2, .bool x.1.gone]
theorem entCells_len (o : P.Op × Nat) : (entCells o).length = 4 := rfl
theorem entCells_one (o : P.Op × Nat) : ∀ u ∈ entCells o, u.oneCell' = true := by
  intro u hu
  simp at hu
  rcases hu with rfl | rfl | rfl | rfl <;> rfl
abbrev OwnEnts (w : World) (B : Nat) (v : Value) (l : List (P.Op × Nat)) : Prop := OwnR 48 4 entCells w B v l
theorem infoEnt : (Try.prog.info? 48).map (fun i => (i.zero, i.size, i.bytes)) = some (some (.agg #[.string ByteArray.empty, .string ByteArray.empty, .int .u64 0, .bool false]), 4, 48) := by kernel_rfl
theorem wpList_pushEnt {ops : Array Oper} {rest : List Oper} {o : Oper} {a : Act} {w : World} {Q : Exit → Act → World → Prop} (hgd : o.guard = none) (s x : Operand)
    (ho : o.op = .call { callee := .builtin .append, args := #[s, x], argTypes := #[38, 38] }) (B : Nat) (v : Value) (l : List (P.Op × Nat)) (c : P.Op × Nat) (hs : a.eval s = v) (hown : OwnEnts w B v l) (hl : l.length < 100000)
    (A : Array Value) (hA : A = (entCells c).toArray) (hx : a.eval x = .slice (some ⟨w.heap.size, 0, none⟩) 1 1) (hB : B ≤ w.heap.size)
    (h : ∀ v' w', OwnEnts w' B v' (l ++ [c]) → Below B w w' → wpList Try.prog ops Q rest (a.put o.dst v') w') :
    wpList Try.prog ops Q (o :: rest) a (w.alloc (.cells A 48)) := by
  obtain ⟨i, hq, h1, h2, h3⟩ := info_parts infoEnt
  exact wpList_pushR hgd s x 38 ho i _ 48 Try.underlying38 hq h1 h2 h3 rfl (by decide) entCells_len entCells_one c hs hown hl (by decide) A hA hx hB h

theorem step_pushEnt {ops : Array Oper} {o : Oper} {a : Act} {w : World} {K : Act → World → Prop} {Q : Exit → Act → World → Prop} {E : Prop} (hgd : o.guard = none) (s x : Operand)
    (ho : o.op = .call { callee := .builtin .append, args := #[s, x], argTypes := #[38, 38] }) (B : Nat) (v : Value) (l : List (P.Op × Nat)) (c : P.Op × Nat) (hs : a.eval s = v) (hown : OwnEnts w B v l) (hl : l.length < 100000)
    (g : Nat) (A : Array Value) (f : Nat × Nat) (hg : w.heap[g]? = some (.cells A 48 f)) (hA : A = (entCells c).toArray) (hx : a.eval x = .slice (some ⟨g, 0, none⟩) 1 1) (hB : B ≤ w.heap.size)
    (h : ∀ v' w', OwnEnts w' B v' (l ++ [c]) → Below B w w' → K (a.put o.dst v') w') :
    if Region.wanted o (yielded ops a.tmps) = true then Oper.wp Try.prog o a w K Q else E := by
  obtain ⟨i, hq, h1, h2, h3⟩ := info_parts infoEnt
  exact step_pushR hgd s x 38 ho i _ 48 Try.underlying38 hq h1 h2 h3 rfl (by decide) entCells_len entCells_one c hs hown hl (by decide) g A f hg hA hx hB h

set_option maxRecDepth 100000 in
set_option maxHeartbeats 4000000 in
theorem entries_any (seq : Nat) (a : Option Addr) (c : Nat) (l : List P.Op) (w : World) (hs : seq < 18446744073709551616) (hl : l.length ≤ 10000) (hp : OpsAt w a l) :
    Calls Try.prog 14 #[batchV seq a l.length c] w fun e w' => ∃ v, e = .returned v ∧ OwnEnts w' w.heap.size v (P.ents seq l) ∧ Below w.heap.size w w' := by
  have Hp := Lib.hid hp
  have Hs := Lib.hid hs
  clear hp hs
  have hbx := Bx.fresh w 27 #[.int .u64 (seq : Int), .slice a l.length c]
  have h0 := (Below.refl w.heap.size w).alloc (Nat.le_refl _) (.cells #[.int .u64 (seq : Int), .slice a l.length c] 27)
  go_enter Try.func14, Try.ntmps14
  go_wp2
  go_loopw [3, 9] (fun v i wr => ∃ k : Nat, k ≤ l.length ∧ i = .int .i64 k ∧ Bx wr w.heap.size 27 #[.int .u64 (seq : Int), .slice a l.length c] ∧ OwnEnts wr (w.heap.size + 1) v (P.ents seq (l.take k)) ∧ w.heap.size + 1 ≤ wr.heap.size ∧ Below w.heap.size w wr) (fun _ i _ => l.length - (intOf i).toNat)
  case atStart => exact ⟨0, by omega, rfl, hbx, ownR_nil _ _, by simp, h0⟩
  case round =>
    clear hbx h0
    obtain ⟨k, hk, rfl, hbx, hown, hsz, hb⟩ := hrel
    by_cases hlt : k < l.length
    · obtain ⟨b, o, rfl, hbb, q0, q1, q2⟩ := Hp.out k hlt
      have c0 := (hb.cell (p := ⟨b, o + k * 3, none⟩) hbb).trans q0
      have c1 := (hb.cell (p := ⟨b, o + k * 3 + 1, none⟩) hbb).trans q1
      have c2 := (hb.cell (p := ⟨b, o + k * 3 + 2, none⟩) hbb).trans q2
      clear q0 q1 q2
      have Hnx := Lib.hid (show P.ents seq (l.take (k + 1)) = P.ents seq (l.take k) ++ [(l[k], (seq + k) % 18446744073709551616)] by
        rw [List.take_succ_eq_append_getElem hlt, P.ents_snoc, List.length_take, Nat.min_eq_left (Nat.le_of_lt hlt)])
      have hel : (P.ents seq (l.take k)).length < 100000 := by rw [P.ents_len, List.length_take]; omega
      have hwk : IntKind.u64.wrap (k : Int) = (k : Int) := by rw [IntKind.wrap_u64]; omega
      have hws : IntKind.u64.wrap ((seq : Int) + (k : Int)) = (((seq + k) % 18446744073709551616 : Nat) : Int) := by rw [IntKind.wrap_u64]; omega
      generalize (seq + k) % 18446744073709551616 = sk at *
      generalize P.ents seq (l.take k) = es at *
      generalize l[k] = q at *
      obtain ⟨kk, vv, gg⟩ := q
      simp only at c0 c1 c2
      have hba := (Below.refl wr.heap.size wr).alloc (Nat.le_refl _) (.cells #[S kk, S vv, .bool gg] 24)
      have hbx1 := hbx.up hba
      have hown1 := hown.up hba
      have hsz1 := Nat.le_trans hsz hba.size
      have hb1 := Chain.up hb hba
      obtain ⟨y0, y1, _, _⟩ := hbx1.two
      go_wp2_with (at_builtin; (refine wpList_pushEnt (by rfl) _ _ (by rfl) (w.heap.size + 1) _ es (⟨kk, vv, gg⟩, sk) (by rfl) hown1 hel _ ?hA ?hx hsz1 ?_; (case hA => first | rfl | (simp [hws])); (case hx => (show Value.slice (some ⟨_, 0, none⟩) 1 1 = _); simp); intro v' w4 hown2 hb4; obtain ⟨ad, cc, hv', _, _⟩ := hown2.is entCells_len; subst hv'))
      go_roundw
      case rel => exact ⟨k + 1, by omega, by go_num, hbx1.below hb4 (Nat.lt_succ_self _), by rw [Hnx.out]; have h := hown2; rw [List.length_append] at h; exact h, Nat.le_trans hsz1 hb4.size, hb1.trans (hb4.mono (Nat.le_succ _))⟩
      case measure => simp [intOf]; omega
    · obtain rfl : k = l.length := by omega
      rw [List.take_length] at hown
      go_wp2
      exact bodyPost_ret (by simp [results, Try.results14, go_sem]) rfl ⟨_, rfl, hown.low (Nat.le_succ _), hb⟩

set_option maxRecDepth 100000 in
set_option maxHeartbeats 4000000 in
theorem refEntries_any (seq : Nat) (a : Option Addr) (c : Nat) (l : List P.Op) (w : World) (hs : seq < 18446744073709551616) (hl : l.length ≤ 10000) (hp : OpsAt w a l) :
    Calls Try.prog 19 #[batchV seq a l.length c] w fun e w' => ∃ v, e = .returned v ∧ OwnEnts w' w.heap.size v (P.ents seq l) ∧ Below w.heap.size w w' := by
  have Hp := Lib.hid hp
  have Hs := Lib.hid hs
  clear hp hs
  have hbx := Bx.fresh w 43 #[.int .u64 (seq : Int), .slice a l.length c]
  have h0 := (Below.refl w.heap.size w).alloc (Nat.le_refl _) (.cells #[.int .u64 (seq : Int), .slice a l.length c] 43)
  go_enter Try.func19, Try.ntmps19
  go_wp2
  go_loopw [3, 4, 5] (fun v z i wr => ∃ k : Nat, k ≤ l.length ∧ i = .int .i64 k ∧ z = V64 ((seq + k) % 18446744073709551616) ∧ Bx wr w.heap.size 43 #[.int .u64 (seq : Int), .slice a l.length c] ∧ OwnEnts wr (w.heap.size + 1) v (P.ents seq (l.take k)) ∧ w.heap.size + 1 ≤ wr.heap.size ∧ Below w.heap.size w wr) (fun _ _ i _ => l.length - (intOf i).toNat)
  case atStart => exact ⟨0, by omega, rfl, by rw [Nat.add_zero, Nat.mod_eq_of_lt Hs.out], hbx, ownR_nil _ _, by simp, h0⟩
  case round =>
    clear hbx h0
    obtain ⟨k, hk, rfl, rfl, hbx, hown, hsz, hb⟩ := hrel
    obtain ⟨y0, y1, _, _⟩ := hbx.two
    by_cases hlt : k < l.length
    · obtain ⟨b, o, rfl, hbb, q0, q1, q2⟩ := Hp.out k hlt
      have c0 := (hb.cell (p := ⟨b, o + k * 3, none⟩) hbb).trans q0
      have c1 := (hb.cell (p := ⟨b, o + k * 3 + 1, none⟩) hbb).trans q1
      have c2 := (hb.cell (p := ⟨b, o + k * 3 + 2, none⟩) hbb).trans q2
      clear q0 q1 q2
      have Hnx := Lib.hid (show P.ents seq (l.take (k + 1)) = P.ents seq (l.take k) ++ [(l[k], (seq + k) % 18446744073709551616)] by
        rw [List.take_succ_eq_append_getElem hlt, P.ents_snoc, List.length_take, Nat.min_eq_left (Nat.le_of_lt hlt)])
      have hel : (P.ents seq (l.take k)).length < 100000 := by rw [P.ents_len, List.length_take]; omega
      have hws : IntKind.u64.wrap ((((seq + k) % 18446744073709551616 : Nat) : Int) + 1) = (((seq + (k + 1)) % 18446744073709551616 : Nat) : Int) := by rw [IntKind.wrap_u64]; omega
      generalize hsk1 : (seq + (k + 1)) % 18446744073709551616 = sk1 at *
      have Hsk := Lib.hid hsk1
      clear hsk1
      generalize (seq + k) % 18446744073709551616 = sk at *
      generalize P.ents seq (l.take k) = es at *
      generalize l[k] = q at *
      obtain ⟨kk, vv, gg⟩ := q
      simp only at c0 c1 c2
      go_wp2
      have hbb' := Nat.lt_succ_of_lt hbb
      go_region_held3 (fun wx => wx.cell? ⟨w.heap.size, 1, none⟩ = some (.slice (some ⟨b, o, none⟩) l.length c) ∧ wx.cell? ⟨b, o + k * 3, none⟩ = some (S kk) ∧ wx.cell? ⟨b, o + k * 3 + 1, none⟩ = some (S vv) ∧ wx.cell? ⟨b, o + k * 3 + 2, none⟩ = some (.bool gg))
        (first
          | go_keep
          | (go_split_ands; exact ⟨(hb4.cell (p := ⟨w.heap.size, 1, none⟩) (Nat.lt_succ_self _)).trans (by assumption), (hb4.cell (p := ⟨b, o + k * 3, none⟩) hbb').trans (by assumption), (hb4.cell (p := ⟨b, o + k * 3 + 1, none⟩) hbb').trans (by assumption), (hb4.cell (p := ⟨b, o + k * 3 + 2, none⟩) hbb').trans (by assumption)⟩))
        (((refine step_pushEnt (by rfl) _ _ (by rfl) (w.heap.size + 1) _ es (⟨kk, vv, gg⟩, sk) (by rfl) ((OwnR.alloc hown _).drew) hel wr.heap.size _ (0, 0) (heap_alloc_new wr _) (by rfl) (by rfl) (Nat.le_trans hsz ((Below.refl wr.heap.size wr).alloc (Nat.le_refl _) (.cells #[S kk, S vv, V64 sk, .bool gg] 48)).drew.size) ?_); intro v' w4 hown2 hb4; obtain ⟨ad, cc, hv', _, _⟩ := hown2.is entCells_len; subst hv'))
      go_wp2
      go_roundw
      have hbz : Below wr.heap.size wr (wr.alloc (.cells #[S kk, S vv, V64 sk, .bool gg] 48)).drew := ((Below.refl wr.heap.size wr).alloc (Nat.le_refl _) _).drew
      case rel => exact ⟨k + 1, by omega, by go_num, by rw [Hsk.out], hbx.below hbz hbx.lt |>.below hb4 (Nat.lt_succ_self _), by rw [Hnx.out]; have h := hown2; rw [List.length_append] at h; exact h, Nat.le_trans (Nat.le_trans hsz hbz.size) hb4.size, (Chain.up hb hbz).trans (hb4.mono (Nat.le_succ _))⟩
      case measure => simp [intOf]; omega
    · obtain rfl : k = l.length := by omega
      rw [List.take_length] at hown
      generalize (seq + l.length) % 18446744073709551616 = sk at *
      go_wp2
      exact bodyPost_ret (by simp [results, Try.results19, go_sem]) rfl ⟨_, rfl, hown.low (Nat.le_succ _), hb⟩
end Go.Proofs.Ytoaecmaphpnolaa
