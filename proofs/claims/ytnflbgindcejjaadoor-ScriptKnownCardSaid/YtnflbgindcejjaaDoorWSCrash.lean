/- The walk of the script's reader: crash. -/
import Derived.Test.YtnflbgindcejjaaDoorWSRd
import Derived.Test.YtnflbgindcejjaaDoorWSRight
import Derived.Test.YtnflbgindcejjaaDoorWOwnR2
import Derived.Test.YtnflbgindcejjaaDoorWBig
import Derived.Deep.RegionLaw
import Derived.Deep.AppendLies
namespace Go.Proofs.YtnflbgindcejjaaDoor
open Go.RowKit
set_option linter.unusedVariables false
set_option linter.unusedSimpArgs false

theorem intCell_one (n : Int) : ∀ u ∈ intCell n, u.oneCell' = true := by
  intro u hu
  simp [intCell] at hu
  subst hu
  rfl
theorem spotCells_one (x : Int × Nat) : ∀ u ∈ spotCells x, u.oneCell' = true := by
  intro u hu
  simp only [spotCells, List.mem_cons, List.not_mem_nil, or_false] at hu
  rcases hu with rfl | rfl <;> rfl
abbrev OwnInts (w : World) (B : Nat) (v : Value) (l : List Int) : Prop := OwnR 3 1 intCell w B v l
abbrev OwnSpots (w : World) (B : Nat) (v : Value) (l : List (Int × Nat)) : Prop := OwnR 26 2 spotCells w B v l
theorem infoInt : (Tryd.prog.info? 3).map (fun i => (i.zero, i.size, i.bytes)) = some (some (.int .i64 0), 1, 8) := by kernel_rfl
theorem infoSpot : (Tryd.prog.info? 26).map (fun i => (i.zero, i.size, i.bytes)) = some (some (.agg #[.int .i64 0, .int .u32 0]), 2, 16) := by kernel_rfl
theorem wpList_pushR2 {α : Type} {e : TypeId} {k : Nat} {cs : α → List Value} {B : Nat} {v : Value} {l : List α} {P : Program} {ops : Array Oper} {rest : List Oper} {o : Oper} {a : Act} {w : World} {Q : Exit → Act → World → Prop} (hgd : o.guard = none) (s x : Operand) (t : TypeId)
    (ho : o.op = .call { callee := .builtin .append, args := #[s, x], argTypes := #[t, t] })
    (i : TypeInfo) (z : Value) (bytes : Nat) (ht : P.underlying t = some (.slice e)) (hi : P.info? e = some i) (hz : i.zero = some z)
    (hsize : i.size = k) (hby : i.bytes = bytes) (hzs : z.cells.size = k) (hsz : 0 < k) (hk : ∀ x, (cs x).length = k) (hone : ∀ x, ∀ u ∈ cs x, u.oneCell' = true)
    (c : α) (hs : a.eval s = v) (hown : OwnR e k cs w B v l) (hl : l.length < 100000) (hbb : bytes ≤ 100000)
    (g : Nat) (A : Array Value) (f : Nat × Nat) (hg : w.heap[g]? = some (.cells A e f)) (hA : A = (cs c).toArray)
    (hx : a.eval x = .slice (some ⟨g, 0, none⟩) 1 1) (hB : B ≤ w.heap.size)
    (h : ∀ v' w', OwnR e k cs w' B v' (l ++ [c]) → Below B w w' → KeptT e w w' → wpList P ops Q rest (a.put o.dst v') w') :
    wpList P ops Q (o :: rest) a w := by
  subst hA
  refine wpList_plain hgd fun _ hK => ?_
  refine wp_append_own _ s x t ho B e i z k bytes ht hi hz hsize hby hzs hsz v l.length (l.flatMap cs) hs hown
    ⟨g, 0, none⟩ 1 1 (cs c) hx (by rw [hk]; omega) ?_ ?_ ?_ ?_ hB ?_
  · intro j u hj
    have e2 : Addr.add ⟨g, 0, none⟩ j = ⟨g, j, none⟩ := by
      unfold Addr.add
      split
      · rename_i h; subst h; rfl
      · simp
    rw [e2]
    simp only [World.cell?, hg]
    simpa using hj
  · exact hone c
  · unfold maxLen; omega
  · have : (l.length + 1) * bytes ≤ 100000 * 100000 := Nat.mul_le_mul (by omega) hbb
    omega
  · intro v' w' h1 h2 _
    refine hK _ _ (h v' w' ?_ ?_ ?_)
    · unfold OwnR
      simpa using h1
    · exact (Below.refl B w).grown h2 hB (fun q hq => (World.ownsRow.lt hown q hq).1)
    · intro b t' c' f' ht' hb
      have hlt : b < w.heap.size := by
        rcases Nat.lt_or_ge b w.heap.size with hh | hh
        · exact hh
        · rw [Array.getElem?_eq_none hh] at hb; cases hb
      exact (h2.block b hlt (fun e => hown.ne ht' hb e.symm)).trans hb
theorem step_pushInt {ops : Array Oper} {o : Oper} {a : Act} {w : World} {K : Act → World → Prop} {Q : Exit → Act → World → Prop} {E : Prop} (hgd : o.guard = none) (s x : Operand)
    (ho : o.op = .call { callee := .builtin .append, args := #[s, x], argTypes := #[23, 23] }) (B : Nat) (v : Value) (l : List Int) (c : Int) (hs : a.eval s = v) (hown : OwnInts w B v l) (hl : l.length < 100000)
    (g : Nat) (A : Array Value) (f : Nat × Nat) (hg : w.heap[g]? = some (.cells A 3 f)) (hA : A = (intCell c).toArray) (hx : a.eval x = .slice (some ⟨g, 0, none⟩) 1 1) (hB : B ≤ w.heap.size)
    (h : ∀ v' w', OwnInts w' B v' (l ++ [c]) → Below B w w' → KeptT 3 w w' → K (a.put o.dst v') w') :
    if Region.wanted o (yielded ops a.tmps) = true then Oper.wp Tryd.prog o a w K Q else E := by
  obtain ⟨i, hq, h1, h2, h3⟩ := info_parts infoInt
  exact step_pushR2 hgd s x 23 ho i _ 8 Tryd.underlying23 hq h1 h2 h3 rfl (by decide) intCell_len intCell_one c hs hown hl (by decide) g A f hg hA hx hB h
theorem wpList_pushSpot {ops : Array Oper} {rest : List Oper} {o : Oper} {a : Act} {w : World} {Q : Exit → Act → World → Prop} (hgd : o.guard = none) (s x : Operand)
    (ho : o.op = .call { callee := .builtin .append, args := #[s, x], argTypes := #[27, 27] }) (B : Nat) (v : Value) (l : List (Int × Nat)) (c : Int × Nat) (hs : a.eval s = v) (hown : OwnSpots w B v l) (hl : l.length < 100000)
    (g : Nat) (A : Array Value) (f : Nat × Nat) (hg : w.heap[g]? = some (.cells A 26 f)) (hA : A = (spotCells c).toArray) (hx : a.eval x = .slice (some ⟨g, 0, none⟩) 1 1) (hB : B ≤ w.heap.size)
    (h : ∀ v' w', OwnSpots w' B v' (l ++ [c]) → Below B w w' → KeptT 26 w w' → wpList Tryd.prog ops Q rest (a.put o.dst v') w') :
    wpList Tryd.prog ops Q (o :: rest) a w := by
  obtain ⟨i, hq, h1, h2, h3⟩ := info_parts infoSpot
  exact wpList_pushR2 hgd s x 27 ho i _ 16 Tryd.underlying27 hq h1 h2 h3 rfl (by decide) spotCells_len spotCells_one c hs hown hl (by decide) g A f hg hA hx hB h

theorem P.bigNum_lt4 (t : List UInt8) : P.bigNum t 4 < 4294967296 := by
  unfold P.bigNum
  split
  · rename_i h
    have h1 := P.val_lt (t.take (4 : Int).toNat)
    have h2 : (t.take (4 : Int).toNat).length ≤ 4 := by rw [List.length_take]; exact Nat.min_le_left _ _
    exact Nat.lt_of_lt_of_le h1 (Nat.pow_le_pow_right (n := 256) (by omega) h2)
  · omega
theorem P.u32_in {n : Nat} (h : n < 4294967296) : IntKind.u32.wrap (n : Int) = (n : Int) := by
  rw [IntKind.wrap_u32]
  omega
/-- What the reader's parts give, named. -/
theorem small_ex (g : Nat) (q : P.Qs) (w : World) (hs : q.1.length ≤ 1000000000) (hx : RdX w g q) :
    Calls Tryd.prog 53 #[.pointer (some ⟨g, 0, none⟩)] w fun e w' => ∃ (n : Nat) (q' : P.Qs), Hid (P.qS q = (n, q')) ∧ e = .returned (.int .i64 n) ∧ RdX w' g q' ∧ But g w w' ∧ q'.1.length ≤ q.1.length :=
  (small_any g q w hs hx).mono fun _ _ ⟨h1, h2, h3⟩ => ⟨_, _, Lib.hid rfl, h1, h2, h3, P.qS_le q⟩
theorem P.qC_lt (q : P.Qs) : (P.qC q).1 < 256 := by
  unfold P.qC P.at_
  split
  · exact UInt8.toNat_lt _
  · omega
theorem byte_ex (g : Nat) (q : P.Qs) (w : World) (hs : q.1.length ≤ 1000000000) (hx : RdX w g q) :
    Calls Tryd.prog 35 #[.pointer (some ⟨g, 0, none⟩)] w fun e w' => ∃ (n : Nat) (q' : P.Qs), Hid (P.qC q = (n, q')) ∧ e = .returned (.int .i64 n) ∧ RdX w' g q' ∧ But g w w' ∧ q'.1.length ≤ q.1.length ∧ n < 256 :=
  (byte_any g q w hs hx).mono fun _ _ ⟨h1, h2, h3⟩ => ⟨_, _, Lib.hid rfl, h1, h2, h3, P.qC_le q, P.qC_lt q⟩
theorem part_ex (g : Nat) (q : P.Qs) (n : Nat) (z : Int) (hz : z = (n : Int)) (w : World) (hs : q.1.length ≤ 1000000000) (hn : n ≤ 1000000000) (hx : RdX w g q) :
    Calls Tryd.prog 37 #[.pointer (some ⟨g, 0, none⟩), .int .i64 z] w fun e w' => ∃ (s : List UInt8) (q' : P.Qs), Hid (P.qP n q = (s, q')) ∧ e = .returned (S s) ∧ RdX w' g q' ∧ But g w w' ∧ q'.1.length ≤ q.1.length ∧ s.length ≤ n := by
  subst hz
  have hl : (P.qP n q).1.length ≤ n := by
    unfold P.qP
    split <;> simp <;> omega
  exact (part_any g q n w hs hn hx).mono fun _ _ ⟨h1, h2, h3⟩ => ⟨_, _, Lib.hid rfl, h1, h2, h3, P.qP_le n q, hl⟩
/-- What reading a crash gives. -/
def CrashDid (g : Nat) (q : P.Qs) (w : World) (e : Ending) (w' : World) : Prop := ∃ (c : P.Cr) (q' : P.Qs) (a b : Option Addr) (k m : Nat), Hid (P.qCrash q = (c, q')) ∧ e = .returned (crV c.names a c.keep.length k b c.spoil.length m) ∧
      OwnInts w' w.heap.size (.slice a c.keep.length k) c.keep ∧ OwnSpots w' w.heap.size (.slice b c.spoil.length m) c.spoil ∧ RdX w' g q' ∧ But g w w' ∧ q'.1.length ≤ q.1.length
set_option maxRecDepth 100000 in
set_option maxHeartbeats 8000000 in
theorem crash_any (g : Nat) (q : P.Qs) (w : World) (hs : q.1.length ≤ 1000000000) (hx : RdX w g q) :
    Calls Tryd.prog 39 #[.pointer (some ⟨g, 0, none⟩)] w (CrashDid g q w) := by
  have hg := hx.lt
  have hx0 := hx.up ((Below.refl w.heap.size w).alloc (Nat.le_refl _) (.cells #[.int .i64 0, .slice none 0 0, .slice none 0 0] 29))
  have hc0 := Bx.fresh w 29 #[.int .i64 0, .slice none 0 0, .slice none 0 0]
  have hb0 : But g w (w.alloc (.cells #[.int .i64 0, .slice none 0 0, .slice none 0 0] 29)) := (But.refl g w).alloc _
  have hne : w.heap.size ≠ g := by omega
  have Hne := Lib.hid hne
  go_enter Tryd.func39, Tryd.ntmps39
  go_wp2_with (first
    | (go_at_call 53; (with_reducible refine (small_ex g q _ hs hx0).mono ?_); rintro e w1 ⟨n, q1, Hq1, rfl, hx1, hd1, hl1⟩; have hc1 := hc0.but hd1 Hne.out; obtain ⟨y0, y1, y2⟩ := hc1.three; have yf := hc1.frozen 0))
  go_wp2_with (first
    | (go_at_call 35; (with_reducible refine (byte_ex g q1 _ (by omega) (hx1.other (by omega) 0 _)).mono ?_); rintro e w2 ⟨k, q2, Hq2, rfl, hx2, hd2, hl2, hk2⟩; have hc2 := (hc1.set 0 (.int .i64 n)).but hd2 Hne.out))
  have hb2 : But g w w2 := ((hb0.trans hd1).setNew (p := ⟨w.heap.size, 0, none⟩) (Nat.le_refl _) (.int .i64 n)).trans hd2
  have hsz2 : w.heap.size + 1 ≤ w2.heap.size := by have := hd1.size; have := hd2.size; simp [World.setCell] at *; omega
  have hl12 : q2.1.length ≤ q.1.length := by omega
  clear hx0 hc0 hb0 hx1 hc1 hd1 hd2 y0 y1 y2 yf hx
  go_loopw [11] (fun z wr => ∃ (i : Nat) (u : Value), z = .int .i64 i ∧ i ≤ k ∧ OwnInts wr (w.heap.size + 1) u (P.qKeep i q2).1 ∧ RdX wr g (P.qKeep i q2).2 ∧ Bx wr w.heap.size 29 #[.int .i64 n, u, .slice none 0 0] ∧ w.heap.size + 1 ≤ wr.heap.size ∧ But g w wr) (fun z _ => (k : Nat) - (intOf z).toNat)
  case atStart => exact ⟨0, _, rfl, Nat.zero_le _, ownR_nil _ _, hx2, hc2, hsz2, hb2⟩
  case round =>
    clear hx2 hc2 hsz2 hb2
    obtain ⟨i, u, rfl, hik, hown, hx2, hc2, hsz, hb⟩ := hrel
    have hqs : (P.qKeep i q2).2.1.length ≤ q2.1.length := P.qKeep_le i q2
    by_cases hlt : i < k
    · have hlt1 : (i : Int) < (k : Int) := by omega
      have hsn := Lib.hid (P.qKeep_snoc i q2)
      have hkl : (P.qKeep i q2).1.length = i := P.qKeep_len i q2
      generalize P.qKeep i q2 = r at *
      obtain ⟨l, q3⟩ := r
      simp only at hown hx2 hqs hsn hkl
      have hwi : IntKind.i64.wrap ((i : Int) + 1) = ((i + 1 : Nat) : Int) := by rw [IntWalk.i64_in _ (by omega)]; omega
      have hx2d : RdX wr.drew g q3 := hx2
      have hc2d : Bx wr.drew w.heap.size 29 #[.int .i64 n, u, .slice none 0 0] := hc2
      have hownd : OwnInts wr.drew (w.heap.size + 1) u l := hown
      have hszd : w.heap.size + 1 ≤ wr.drew.heap.size := hsz
      have hbd := hb.drew
      obtain ⟨p0, p1, p2, _, _, _⟩ := hc2d.three
      go_wp2
      go_region_law (first
        | (go_simp; go_at_call 53; (with_reducible refine (small_ex g q3 _ (by omega) hx2d).mono ?_); rintro e w5 ⟨x, q4, Hq4, rfl, hx4, hd4, hl4⟩; have hc4 := hc2d.but hd4 Hne.out; obtain ⟨k0, k1, k2, k3, k4, k5⟩ := hc4.three; have k1a := cell_up ((Below.refl w5.heap.size w5).alloc (Nat.le_refl _) (.cells #[.int .i64 (x : Int)] 3)) k1; have hI4 := hownd.but hx2d (by decide) hd4; have hs4 := Nat.le_trans hszd hd4.size; have hb4 := hbd.trans hd4)
        | (refine step_pushInt (by rfl) _ _ (by rfl) (w.heap.size + 1) _ l (x : Int) (by rfl) (OwnR.alloc hI4 _) (by omega) w5.heap.size _ (0, 0) (heap_alloc_new w5 _) (by rfl) (by rfl) (Nat.le_trans hs4 ((Below.refl w5.heap.size w5).alloc (Nat.le_refl _) (.cells #[.int .i64 (x : Int)] 3)).size) ?_; intro v' w7 hown7 hb7 hkt7; obtain ⟨ad, cc, hv', _, _⟩ := hown7.is intCell_len; (subst hv'); have hlen : (l ++ [(x : Int)]).length = i + 1 := (by simp [hkl]); (rw [hlen] at hown7); have ha := (Below.refl w5.heap.size w5).alloc (Nat.le_refl _) (.cells #[.int .i64 (x : Int)] 3); have hx4a := (hx4.up ha).below hb7 (by omega); have hc4a := (hc4.up ha).below hb7 (by omega); have hs7 := Nat.le_trans (Nat.le_trans hs4 ha.size) hb7.size; have hb7b := (hb4.alloc (.cells #[.int .i64 (x : Int)] 3)).up (hb7.mono (by omega)); obtain ⟨g0, g1, g2, g3, g4, g5⟩ := hc4a.three; have gf := hc4a.frozen 1))
      all_goals (go_wp2; go_roundw; (case rel => exact ⟨i + 1, .slice ad (i + 1) cc, by go_num, by omega, by rw [hsn.out, Hq4.out]; exact hown7.other (by omega) 1 _, by rw [hsn.out, Hq4.out]; exact hx4a.other (by omega) 1 _, by simpa using hc4a.set 1 (.slice ad (i + 1) cc), by simpa [World.setCell] using hs7, hb7b.setNew (p := ⟨w.heap.size, 1, none⟩) (Nat.le_refl _) _⟩); (case measure => simp [intOf]; omega))
    · obtain rfl : i = k := by omega
      have hge : ¬ ((i : Int) < (i : Int)) := by omega
      have Hkeep := Lib.hid (show P.qKeep i q2 = ((P.qKeep i q2).1, (P.qKeep i q2).2) from rfl)
      have hkl : (P.qKeep i q2).1.length = i := P.qKeep_len i q2
      generalize (P.qKeep i q2).1 = l at *
      generalize (P.qKeep i q2).2 = q3 at *
      go_wp2_with (first
        | (go_at_call 35; (with_reducible refine (byte_ex g q3 _ (by omega) hx2).mono ?_); rintro e w5 ⟨j, q4, Hq4, rfl, hx4, hd4, hl4, hj4⟩))
      have hc4 := hc2.but hd4 Hne.out
      have hI4 := hown.but hx2 (by decide) hd4
      have hs4 := Nat.le_trans hsz hd4.size
      have hb4 := hb.trans hd4
      clear hx2 hc2 hown hsz hb hd4
      go_loopw [23] (fun z wr => ∃ (i' : Nat) (u' : Value), z = .int .i64 i' ∧ i' ≤ j ∧ OwnSpots wr (w.heap.size + 1) u' (P.qSpoil i' q4).1 ∧ OwnInts wr (w.heap.size + 1) u l ∧ RdX wr g (P.qSpoil i' q4).2 ∧ Bx wr w.heap.size 29 #[.int .i64 n, u, u'] ∧ w.heap.size + 1 ≤ wr.heap.size ∧ But g w wr) (fun z _ => (j : Nat) - (intOf z).toNat)
      case atStart => exact ⟨0, _, rfl, Nat.zero_le _, ownR_nil _ _, hI4, hx4, hc4, hs4, hb4⟩
      case round =>
        clear hx4 hc4 hI4 hs4 hb4
        obtain ⟨i', u', rfl, hik', hownS, hownI, hx2, hc2, hsz, hb⟩ := hrel
        have hqs' : (P.qSpoil i' q4).2.1.length ≤ q4.1.length := P.qSpoil_le i' q4
        by_cases hlt : i' < j
        · have hlt1 : (i' : Int) < (j : Int) := by omega
          have hsn := Lib.hid (P.qSpoil_snoc i' q4)
          have hkl2 : (P.qSpoil i' q4).1.length = i' := P.qSpoil_len i' q4
          generalize P.qSpoil i' q4 = r at *
          obtain ⟨m, q5⟩ := r
          simp only at hownS hx2 hqs' hsn hkl2
          have hwi : IntKind.i64.wrap ((i' : Int) + 1) = ((i' + 1 : Nat) : Int) := by rw [IntWalk.i64_in _ (by omega)]; omega
          go_wp2_with (first
            | (go_at_call 53; (with_reducible refine (small_ex g q5 _ (by omega) hx2).mono ?_); rintro e w6 ⟨x, q6, Hq6, rfl, hx6, hd6, hl6⟩;
                have hx6a := hx6.up ((Below.refl w6.heap.size w6).alloc (Nat.le_refl _) (.cells #[.int .i64 (x : Int), .int .u32 0] 26)); have hbx6 := Bx.fresh w6 26 #[.int .i64 (x : Int), .int .u32 0]; have Hne6 := Lib.hid (show w6.heap.size ≠ g by have := hx6.lt; omega); have hd6a := hd6.alloc (.cells #[.int .i64 (x : Int), .int .u32 0] 26))
            | (go_at_call 37; (with_reducible refine (part_ex g q6 4 4 rfl _ (by omega) (by omega) hx6a).mono ?_); rintro e w7 ⟨t, q7, Hq7, rfl, hx7, hd7, hl7, ht7⟩; have hd67 := hd6a.trans hd7; have hbx7 := hbx6.but hd7 Hne6.out)
            | (go_at_call 54; (with_reducible refine (big_any t 4 w7 (by omega) (by omega) (by omega)).mono ?_); rintro e w8 ⟨rfl, hb8⟩; have hx8 := hx7.up hb8; have hbx8 := hbx7.up hb8; have hm4 : P.bigNum t 4 < 4294967296 := P.bigNum_lt4 t; have hw4 : IntKind.u32.wrap (P.bigNum t 4 : Int) = (P.bigNum t 4 : Int) := P.u32_in hm4; have Hm := Lib.hid (show P.qSpot q5 = (((x : Int), P.bigNum t 4), q7) by (unfold P.qSpot; rw [Hq6.out]; simp only; rw [Hq7.out]));
                (generalize P.bigNum t 4 = mk at *); have zf := hbx8.frozen 1; have zf0 := hbx8.frozen 0; obtain ⟨zc0, zc1, _, _⟩ := hbx8.two; have hlt6 : wr.heap.size ≤ w6.heap.size := hd6.size;
                have hd9 : But g wr (w8.setCell ⟨w6.heap.size, 1, none⟩ (.int .u32 (mk : Int))) := (hd67.trans (But.of hb8)).setNew (p := ⟨w6.heap.size, 1, none⟩) hlt6 _;
                have hbx9 : Bx (w8.setCell ⟨w6.heap.size, 1, none⟩ (.int .u32 (mk : Int))) w6.heap.size 26 #[.int .i64 (x : Int), .int .u32 (mk : Int)] := hbx8.set 1 _;
                have hx9 := hx8.other Hne6.out 1 (.int .u32 (mk : Int)); have hc9 := hc2.but hd9 Hne.out; have hS9 := hownS.but hx2 (by decide) hd9; have hI9 := hownI.but hx2 (by decide) hd9; have hs9 := Nat.le_trans hsz hd9.size; have hb9 := hb.trans hd9; have hsz9 : (w8.setCell ⟨w6.heap.size, 1, none⟩ (.int .u32 (mk : Int))).heap.size = w8.heap.size := (by simp [World.setCell]);
                obtain ⟨y0, y1, y2, _, _, _⟩ := hc9.three; obtain ⟨z0, z1, _, _⟩ := hbx9.two)
            | (at_builtin; (refine wpList_pushSpot (by rfl) _ _ (by rfl) (w.heap.size + 1) _ m ((x : Int), mk) (by rfl) (OwnR.alloc hS9 _) (by omega) w8.heap.size _ (0, 0) ((congrArg (fun z => (World.alloc _ (.cells _ 26)).heap[z]?) hsz9.symm).trans (heap_alloc_new _ _)) (by rfl) (by rfl) ?_ ?_; (case refine_1 => exact Nat.le_trans hs9 ((Below.refl _ _).alloc (Nat.le_refl _) _).size); intro v' w10 hown10 hb10 hkt10; obtain ⟨ad, cc, hv', _, _⟩ := hown10.is spotCells_len; (subst hv'); have hlen : (m ++ [((x : Int), mk)]).length = i' + 1 := (by simp [hkl2]); (rw [hlen] at hown10); have ha := fun o => (Below.refl (w8.setCell ⟨w6.heap.size, 1, none⟩ (.int .u32 (mk : Int))).heap.size (w8.setCell ⟨w6.heap.size, 1, none⟩ (.int .u32 (mk : Int)))).alloc (Nat.le_refl _) o; have hxa := (hx9.up (ha _)).below hb10 (by omega); have hca := (hc9.up (ha _)).below hb10 (by omega); have hsa := Nat.le_trans (Nat.le_trans hs9 (ha _).size) hb10.size; have hba := (hb9.alloc _).up (hb10.mono (by omega)); have hIa := (OwnR.alloc hI9 _).keptT hkt10 (by decide); obtain ⟨g0, g1, g2, _, _, _⟩ := hca.three; have gf := hca.frozen 2)))
          go_roundw
          case rel =>
            exact ⟨i' + 1, .slice ad (i' + 1) cc, by go_num, by omega, by rw [hsn.out, Hm.out]; exact hown10.other (by omega) 2 _, hIa.other (by omega) 2 _, by rw [hsn.out, Hm.out]; exact hxa.other (by omega) 2 _, by simpa using hca.set 2 (.slice ad (i' + 1) cc), by simpa [World.setCell] using hsa, hba.setNew (p := ⟨w.heap.size, 2, none⟩) (Nat.le_refl _) _⟩
          case measure => simp [intOf]; omega
        · obtain rfl : i' = j := by omega
          have hge2 : ¬ ((i' : Int) < (i' : Int)) := by omega
          have Hspoil := Lib.hid (show P.qSpoil i' q4 = ((P.qSpoil i' q4).1, (P.qSpoil i' q4).2) from rfl)
          have hkl2 : (P.qSpoil i' q4).1.length = i' := P.qSpoil_len i' q4
          generalize (P.qSpoil i' q4).1 = m at *
          generalize (P.qSpoil i' q4).2 = q5 at *
          obtain ⟨a, ca, hu, _, _⟩ := hownI.is intCell_len
          subst hu
          obtain ⟨b, cb, hu, _, _⟩ := hownS.is spotCells_len
          subst hu
          have Hc := Lib.hid (show P.qCrash q = (⟨(n : Int), l, m⟩, q5) by unfold P.qCrash; simp only; rw [Hq1.out]; simp only; rw [Hq2.out]; simp only; rw [Hkeep.out]; simp only; rw [Hq4.out]; simp only; rw [Hspoil.out])
          rw [hkl] at hownI hc2
          rw [hkl2] at hownS hc2
          obtain ⟨y0, y1, y2, f0, f1, f2⟩ := hc2.three
          go_wp2_with fail
          have hc3 : Bx (((wr.setCell ⟨w.heap.size, 0, none⟩ (.int .i64 (n : Int))).setCell ⟨w.heap.size, 1, none⟩ (.slice a i ca)).setCell ⟨w.heap.size, 2, none⟩ (.slice b i' cb)) w.heap.size 29 #[.int .i64 n, .slice a i ca, .slice b i' cb] := ((hc2.set 0 _).set 1 _).set 2 _
          have fI := (((hownI.other (Nat.lt_succ_self w.heap.size) 0 (.int .i64 (n : Int))).other (Nat.lt_succ_self w.heap.size) 1 (.slice a i ca)).other (Nat.lt_succ_self w.heap.size) 2 (.slice b i' cb)).low (Nat.le_succ _)
          have fS := (((hownS.other (Nat.lt_succ_self w.heap.size) 0 (.int .i64 (n : Int))).other (Nat.lt_succ_self w.heap.size) 1 (.slice a i ca)).other (Nat.lt_succ_self w.heap.size) 2 (.slice b i' cb)).low (Nat.le_succ _)
          have fX := ((hx2.other Hne.out 0 (.int .i64 (n : Int))).other Hne.out 1 (.slice a i ca)).other Hne.out 2 (.slice b i' cb)
          have fB := ((hb.setNew (p := ⟨w.heap.size, 0, none⟩) (Nat.le_refl _) (.int .i64 (n : Int))).setNew (p := ⟨w.heap.size, 1, none⟩) (Nat.le_refl _) (.slice a i ca)).setNew (p := ⟨w.heap.size, 2, none⟩) (Nat.le_refl _) (.slice b i' cb)
          generalize (((wr.setCell ⟨w.heap.size, 0, none⟩ (.int .i64 (n : Int))).setCell ⟨w.heap.size, 1, none⟩ (.slice a i ca)).setCell ⟨w.heap.size, 2, none⟩ (.slice b i' cb)) = w9 at hc3 fI fS fX fB ⊢
          obtain ⟨q0, q1', q2', _, _, _⟩ := hc3.three
          exact bodyPost_ret (v := crV n a i ca b i' cb) (by simp [results, Tryd.results39, go_sem, q0, q1', q2']) rfl ⟨⟨(n : Int), l, m⟩, q5, a, b, ca, cb, Hc, by rw [hkl, hkl2], by rw [hkl]; exact fI, by rw [hkl2]; exact fS, fX, fB, by omega⟩
end Go.Proofs.YtnflbgindcejjaaDoor
