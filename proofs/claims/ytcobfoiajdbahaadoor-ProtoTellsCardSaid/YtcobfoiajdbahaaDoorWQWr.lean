/- The walks of the writer: byte, text, number, addr, prefix, lease, head. -/
import Derived.Test.YtcobfoiajdbahaaDoorWQPx
import Derived.Test.YtcobfoiajdbahaaDoorWBaseQ
namespace Go.Proofs.YtcobfoiajdbahaaDoor
open Go.RowKit
set_option linter.unusedVariables false
set_option linter.unusedSimpArgs false
/-- A writer, and what stands in it. -/
def Wr (w : World) (g : Nat) (l : List UInt8) : Prop := ∃ a c, Bx w g 87 #[.slice a l.length c] ∧ Own w (g + 1) (.slice a l.length c) l
theorem Wr.up {w w' : World} {g : Nat} {l : List UInt8} (h : Wr w g l) (hb : Below w.heap.size w w') : Wr w' g l := by
  obtain ⟨a, c, h1, h2⟩ := h
  exact ⟨a, c, h1.up hb, h2.upO hb⟩
theorem Wr.lt {w : World} {g : Nat} {l : List UInt8} (h : Wr w g l) : g < w.heap.size := by
  obtain ⟨a, c, h1, h2⟩ := h
  exact h1.lt
/-- But for bytes and one box, what was there stays. -/
def KeptW (g : Nat) (w w' : World) : Prop := ∀ (b : Nat) (t : TypeId) (cs : Array Value) (f : Nat × Nat), t ≠ 5 → b ≠ g → w.heap[b]? = some (.cells cs t f) → w'.heap[b]? = some (.cells cs t f)
theorem KeptW.trans {g : Nat} {a b c : World} (h : KeptW g a b) (k : KeptW g b c) : KeptW g a c := fun q t cs f h1 h2 h3 => k q t cs f h1 h2 (h q t cs f h1 h2 h3)
theorem KeptW.of {g : Nat} {w w' : World} (h : Below w.heap.size w w') : KeptW g w w' := fun b t cs f _ _ h3 => by
  have hlt : b < w.heap.size := by
    rcases Nat.lt_or_ge b w.heap.size with hh | hh
    · exact hh
    · rw [Array.getElem?_eq_none hh] at h3; cases h3
  exact (h.block b hlt).trans h3
theorem KeptW.kt {g : Nat} {w w' : World} (h : KeptT 5 w w') : KeptW g w w' := fun b t cs f h1 _ h3 => h b t cs f h1 h3
theorem KeptW.set {g : Nat} (w : World) (i : Nat) (v : Value) : KeptW g w (w.setCell ⟨g, i, none⟩ v) := fun b t cs f _ h2 h3 => (Below.heap_setCell _ _ _ _ h2).trans h3
theorem Bx.keptW {g b : Nat} {w w' : World} {t : TypeId} {cs : Array Value} (h : Bx w b t cs) (hk : KeptW g w w') (ht : t ≠ 5) (hb : b ≠ g) : Bx w' b t cs := hk b t cs (0, 0) ht hb h
theorem u8_byI (n : Int) : n % 256 = ((P.byI n).toNat : Int) := by
  unfold P.byI
  rw [P.byt_toNat]
  omega
theorem u8_byt (n : Nat) (h : n < 256) : (n : Int) = ((P.byt n).toNat : Int) := by
  rw [P.byt_toNat]
  omega
theorem info8Q : (Tryd.prog.info? 5).map (fun i => (i.zero, i.size, i.bytes)) = some (some (.int .u8 0), 1, 1) := by kernel_rfl
def byQ (b : UInt8) : List Value := [u8V b]
theorem byQ_len (b : UInt8) : (byQ b).length = 1 := rfl
theorem byQ_one (b : UInt8) : ∀ u ∈ byQ b, u.oneCell' = true := by
  intro u hu
  obtain rfl := List.mem_singleton.1 hu
  rfl
theorem own_rowsQ {w : World} {B : Nat} {v : Value} {l : List UInt8} : Own w B v l ↔ OwnR 5 1 byQ w B v l := by
  unfold Own OwnR
  rw [show l.flatMap byQ = l.map u8V by induction l with | nil => rfl | cons b l ih => simp [List.flatMap_cons, ih, byQ]]
/-- 'append(b, c...)' of bytes, one operation. -/
theorem wp_appQ {o : Oper} {a : Act} {w : World} {K : Act → World → Prop} {Q : Exit → Act → World → Prop} (s x : Operand)
    (ho : o.op = .call { callee := .builtin .append, args := #[s, x], argTypes := #[85, 85] }) (B : Nat) (v : Value) (l m : List UInt8) (hs : a.eval s = v) (hown : Own w B v l) (hl : l.length + m.length ≤ 1000000)
    (b : Option Addr) (n c : Nat) (hx : a.eval x = .slice b n c) (hn : n = m.length) (hm : RowsAt 1 byQ w b m) (hB : B ≤ w.heap.size)
    (h : ∀ b' c' w', Own w' B (.slice b' (l.length + m.length) c') (l ++ m) → Below B w w' → KeptT 5 w w' → K (a.put o.dst (.slice b' (l.length + m.length) c')) w') : Oper.wp Tryd.prog o a w K Q := by
  obtain ⟨i, hq, h1, h2, h3⟩ := info_parts info8Q
  refine wp_appR s x 85 ho i _ 1 Tryd.underlying85 hq h1 h2 h3 rfl (by decide) byQ_len byQ_one m hs (own_rowsQ.1 hown) hl (by decide) b n c hx hn hm hB fun v' w' h4 h5 h6 => ?_
  obtain ⟨b', c', hv, _⟩ := h4.is byQ_len
  subst hv
  rw [List.length_append] at h4 ⊢
  exact h b' c' w' (own_rowsQ.2 h4) h5 h6
/-- 'append(b, s...)', s a string, one operation. -/
theorem wp_strQ {o : Oper} {a : Act} {w : World} {K : Act → World → Prop} {Q : Exit → Act → World → Prop} (s x : Operand)
    (ho : o.op = .call { callee := .builtin .append, args := #[s, x], argTypes := #[85, 9] }) (B : Nat) (v : Value) (l m : List UInt8) (hs : a.eval s = v) (hown : Own w B v l) (hx : a.eval x = S m) (hl : l.length + m.length ≤ 1000000) (hB : B ≤ w.heap.size)
    (h : ∀ b' c' w', Own w' B (.slice b' (l.length + m.length) c') (l ++ m) → Below B w w' → KeptT 5 w w' → K (a.put o.dst (.slice b' (l.length + m.length) c')) w') : Oper.wp Tryd.prog o a w K Q := by
  refine wp_appOwn s x ho B v l m hs hown hx (by omega) hB fun v' w' h1 h2 _ => ?_
  obtain ⟨b', c', hv, _⟩ := h1.isO
  subst hv
  rw [List.length_append] at h1 ⊢
  refine h b' c' w' h1 (below_owned (Below.refl _ _) hown hB h2) ?_
  intro b t' c f' ht' hb
  have hlt : b < w.heap.size := by
    rcases Nat.lt_or_ge b w.heap.size with hh | hh
    · exact hh
    · rw [Array.getElem?_eq_none hh] at hb; cases hb
  exact (h2.block b hlt (fun e => (own_rowsQ.1 hown).ne ht' hb e.symm)).trans hb
theorem wpList_appQ {ops : Array Oper} {rest : List Oper} {o : Oper} {a : Act} {w : World} {Q : Exit → Act → World → Prop} (hgd : o.guard = none) (s x : Operand)
    (ho : o.op = .call { callee := .builtin .append, args := #[s, x], argTypes := #[85, 85] }) (B : Nat) (v : Value) (l m : List UInt8) (hs : a.eval s = v) (hown : Own w B v l) (hl : l.length + m.length ≤ 1000000)
    (b : Option Addr) (n c : Nat) (hx : a.eval x = .slice b n c) (hn : n = m.length) (hm : RowsAt 1 byQ w b m) (hB : B ≤ w.heap.size)
    (h : ∀ b' c' w', Own w' B (.slice b' (l.length + m.length) c') (l ++ m) → Below B w w' → KeptT 5 w w' → wpList Tryd.prog ops Q rest (a.put o.dst (.slice b' (l.length + m.length) c')) w') :
    wpList Tryd.prog ops Q (o :: rest) a w :=
  wpList_plain hgd fun _ hK => wp_appQ s x ho B v l m hs hown hl b n c hx hn hm hB fun b' c' w' h1 h2 h3 => hK _ _ (h b' c' w' h1 h2 h3)
/-- What the slots of a row's making hold. -/
def txQ (v : Value) (T s : List UInt8) (i : Nat) (u : Value) (w : World) : Prop :=
  match i with
  | 4 => u = v
  | 6 => ∃ g, u = .slice (some ⟨g, 0, none⟩) 1 1 ∧ StrsAt w (some ⟨g, 0, none⟩) [s]
  | 7 => u = S T
  | _ => True
theorem txQ_up (v : Value) (T s : List UInt8) (i : Nat) (u : Value) (w w' : World) (h : txQ v T s i u w) (hb : Below w.heap.size w w') : txQ v T s i u w' := by
  unfold txQ at *
  split
  · exact h
  · obtain ⟨g, h1, h2⟩ := h; exact ⟨g, h1, h2.up hb⟩
  · exact h
  · trivial
def nmQ (v : Value) (T : List UInt8) (n : Nat) (i : Nat) (u : Value) (w : World) : Prop :=
  match i with
  | 4 => u = v
  | 6 => ∃ g, u = .slice (some ⟨g, 0, none⟩) 1 1 ∧ NumsAt w (some ⟨g, 0, none⟩) [n]
  | 7 => u = S T
  | _ => True
theorem nmQ_up (v : Value) (T : List UInt8) (n : Nat) (i : Nat) (u : Value) (w w' : World) (h : nmQ v T n i u w) (hb : Below w.heap.size w w') : nmQ v T n i u w' := by
  unfold nmQ at *
  split
  · exact h
  · obtain ⟨g, h1, h2⟩ := h; exact ⟨g, h1, NumsAt.below h2 hb⟩
  · exact h
  · trivial
def adQ (v : Value) (x : P.Ad) (i : Nat) (u : Value) (w : World) : Prop :=
  match i with
  | 4 => u = v
  | 6 => u = .int .u8 (x.fam : Nat)
  | 7 => ∃ g, u = .slice (some ⟨g, 0, none⟩) 1 1 ∧ RowsAt 1 byQ w (some ⟨g, 0, none⟩) [P.byt x.fam]
  | 9 => u = adV x
  | _ => True
theorem adQ_up (v : Value) (x : P.Ad) (i : Nat) (u : Value) (w w' : World) (h : adQ v x i u w) (hb : Below w.heap.size w w') : adQ v x i u w' := by
  unfold adQ at *
  split
  · exact h
  · exact h
  · obtain ⟨g, h1, h2⟩ := h; exact ⟨g, h1, RowsAt.up h2 hb⟩
  · exact h
  · trivial
def hdQ (v : Value) (x : P.Ca) (i : Nat) (u : Value) (w : World) : Prop :=
  match i with
  | 4 => u = v
  | 6 => u = .int .u8 (x.op : Nat)
  | 8 => u = .int .u8 (x.client : Nat)
  | 9 => ∃ g, u = .slice (some ⟨g, 0, none⟩) 2 2 ∧ RowsAt 1 byQ w (some ⟨g, 0, none⟩) [P.byt x.op, P.byt x.client]
  | _ => True
theorem hdQ_up (v : Value) (x : P.Ca) (i : Nat) (u : Value) (w w' : World) (h : hdQ v x i u w) (hb : Below w.heap.size w w') : hdQ v x i u w' := by
  unfold hdQ at *
  split
  · exact h
  · exact h
  · exact h
  · obtain ⟨g, h1, h2⟩ := h; exact ⟨g, h1, RowsAt.up h2 hb⟩
  · trivial
abbrev caV (x : P.Ca) : Value := .agg #[.int .u8 (x.op : Nat), .int .u8 (x.client : Nat), V64 x.number, .int .u8 (x.p.a.fam : Nat), V64 x.p.a.hi, V64 x.p.a.lo, .int .i64 x.p.bits, .int .u8 (x.a.fam : Nat), V64 x.a.hi, V64 x.a.lo, S x.owner, S x.to, V64 x.d, V64 x.fr, .int .i64 x.n]
set_option maxRecDepth 100000 in
set_option maxHeartbeats 2000000 in
theorem wbyte_any (g : Nat) (l : List UInt8) (n : Int) (w : World) (hl : l.length ≤ 900000) (h : Wr w g l) :
    Calls Tryd.prog 36 #[.pointer (some ⟨g, 0, none⟩), .int .i64 n] w fun e w' => e = .returned (.tuple #[]) ∧ Wr w' g (l ++ [P.byI n]) ∧ Below g w w' ∧ KeptW g w w' := by
  obtain ⟨a, c, hx, hown⟩ := h
  have hlt := hx.lt
  have c0 : w.cell? ⟨g, 0, none⟩ = some (.slice a l.length c) := hx.cell 0
  have f0 := hx.frozen 0
  go_enter Tryd.func36, Tryd.ntmps36
  have hown1 := hown.alloc (.cells #[.int .u8 (n % 256)] 5)
  have hr1 := rows_new 1 byQ byQ_len w [P.byI n] #[.int .u8 (n % 256)] 5 (by rw [u8_byI]; rfl)
  have hA := (Below.refl w.heap.size w).alloc (Nat.le_refl _) (.cells #[.int .u8 (n % 256)] 5)
  go_wp2_with (at_builtin; (refine wpList_appQ (by rfl) _ _ (by rfl) (g + 1) _ l [P.byI n] (by rfl) hown1 ?h1 _ _ _ (by rfl) ?h2 hr1 ?h3 ?_); (case h1 => simp only [List.length_singleton]; omega); (case h2 => rfl); (case h3 => have := hA.size; omega); intro b' c' w2 hown2 hb2 hkt2; have hx2 := (hx.up hA).below hb2 (by omega); have f2 := hx2.frozen 0; have d0 : w2.cell? ⟨g, 0, none⟩ = some (.slice a l.length c) := hx2.cell 0)
  go_end0
  exact ⟨rfl, ⟨b', c', by rw [List.length_append]; exact hx2.set 0 _, by rw [List.length_append]; exact own_rowsQ.2 ((own_rowsQ.1 hown2).other (by omega) 0 _)⟩, Below.setCell (p := ⟨g, 0, none⟩) (show Below g w w2 from (hA.mono (Nat.le_of_lt hlt)).trans (hb2.mono (Nat.le_succ g))) (Nat.le_refl g) _, ((KeptW.of hA).trans (KeptW.kt hkt2)).trans (KeptW.set _ _ _)⟩
set_option maxRecDepth 100000 in
set_option maxHeartbeats 4000000 in
theorem wtext_any (g : Nat) (l : List UInt8) (s : List UInt8) (w : World) (hl : l.length ≤ 900000) (h : Wr w g l) (hs : s.length ≤ 20000) :
    Calls Tryd.prog 34 #[.pointer (some ⟨g, 0, none⟩), S s] w fun e w' => e = .returned (.tuple #[]) ∧ Wr w' g (l ++ P.txB s) ∧ Below g w w' ∧ KeptW g w w' := by
  have HT := Lib.hid (fun (g0 c0 : Nat) (wx : World) (hp : StrsAt wx (some ⟨g0, 0, none⟩) [s]) => show Calls Tryd.prog 74 #[.slice (some ⟨g0, 0, none⟩) 1 c0] wx fun e w' => e = .returned (S (P.txB s)) ∧ Below wx.heap.size wx w' from by
    have h := texts_any (some ⟨g0, 0, none⟩) c0 [s] wx (by simp) (by simp [P.total]; omega) hp
    rw [show P.texts [s] = P.txB s by simp [P.texts, P.txB]] at h
    exact h)
  have HL := Lib.hid (show (P.txB s).length ≤ 20009 by unfold P.txB; rw [List.length_append]; have := P.row_len9 s.length; omega)
  generalize P.txB s = T at *
  obtain ⟨a, c, hx, hown⟩ := h
  have hg0 : g ≤ w.heap.size := Nat.le_of_lt hx.lt
  have hlt := hx.lt
  go_enter Tryd.func34, Tryd.ntmps34
  go_wp2_with fail
  refine wp_region_held_drew (S := fun wx => Below g w wx) (by kernel_rfl) (Below.refl _ _).drew (fun hHeld => ?_)
  refine wpAnyH_take (i := 0) (v := ?_) rfl (by kernel_rfl) (by kernel_rfl) (by kernel_rfl) (fun _ _ _ h => h) (Or.inl ⟨by rfl, ?_⟩) hHeld ?_
  rotate_left
  · intro wq hSw; go_simp; (try with_reducible rfl)
  simp only [Act.put, nrm]
  refine wpAnyH_take (i := 1) (v := ?_) rfl (by kernel_rfl) (by kernel_rfl) (by kernel_rfl) (fun _ _ _ h => h) (Or.inl ⟨by rfl, ?_⟩) hHeld ?_
  rotate_left
  · intro wq hSw; go_simp; (try with_reducible rfl)
  simp only [Act.put, nrm]
  refine wpAnyH_take (i := 2) (v := ?_) rfl (by kernel_rfl) (by kernel_rfl) (by kernel_rfl) (fun _ _ _ h => h) (Or.inl ⟨by rfl, ?_⟩) hHeld ?_
  rotate_left
  · intro wq hSw; go_simp; (try with_reducible rfl)
  simp only [Act.put, nrm]
  refine wpAnyH_take (i := 3) (v := ?_) rfl (by kernel_rfl) (by kernel_rfl) (by kernel_rfl) (fun _ _ _ h => h) (Or.inl ⟨by rfl, ?_⟩) hHeld ?_
  rotate_left
  · intro wq hSw; go_simp; (try with_reducible rfl)
  simp only [Act.put, nrm]
  refine wpAnyH_take (i := 5) (v := ?_) rfl (by kernel_rfl) (by kernel_rfl) (by kernel_rfl) (fun _ _ _ h => h) (Or.inl ⟨by rfl, ?_⟩) hHeld ?_
  rotate_left
  · intro wq hSw; go_simp; (try with_reducible rfl)
  simp only [Act.put, nrm]
  refine wpAnyH_by2 (txQ (.slice a l.length c) T s) (fun wx => Below w.heap.size w wx) (fun wx wy => Below wx.heap.size wx wy) [(4, some 8), (6, some 10), (7, some 11)] 4 (fun wx hx => hx.mono hg0) rfl (by kernel_rfl) (by kernel_rfl) (by kernel_rfl) (by kernel_rfl) (by kernel_rfl) (by kernel_rfl) (by kernel_rfl) (txQ_up (.slice a l.length c) T s) (Below.refl _ _).drew ?_ ?_
  · skip
    refine StepsI.skip (by kernel_rfl) ?_
    refine StepsI.skip (by kernel_rfl) ?_
    refine StepsI.skip (by kernel_rfl) ?_
    refine StepsI.skip (by kernel_rfl) ?_
    refine StepsI.cons (fun vals wx hS hd K hK => ?_) ?_
    · simp only [fillA, Act.put, List.setIfInBounds_toArray, List.set_cons_zero, List.set_cons_succ] at hK ⊢
      have q0 : wx.cell? ⟨g, 0, none⟩ = some (.slice a l.length c) := (hx.up hS).cell 0
      go_simp
      exact hK.out _ _ rfl hS (Below.refl _ _)
    refine StepsI.skip (by kernel_rfl) ?_
    refine StepsI.cons (fun vals wx hS hd K hK => ?_) ?_
    · simp only [fillA, Act.put, List.setIfInBounds_toArray, List.set_cons_zero, List.set_cons_succ] at hK ⊢
      go_simp
      exact hK.out _ _ ⟨_, rfl, strs_new wx [s] _ _ rfl⟩ (hS.alloc hS.size _) ((Below.refl _ _).alloc (Nat.le_refl _) _)
    refine StepsI.cons (fun vals wx hS hd K hK => ?_) ?_
    · simp only [fillA, Act.put, List.setIfInBounds_toArray, List.set_cons_zero, List.set_cons_succ] at hK ⊢
      obtain ⟨g1, h1, p1⟩ := hd 6 (some 10) (by decide) (by kernel_rfl)
      simp only [h1] at hK ⊢
      go_simp
      (with_reducible refine (HT.out _ _ _ p1).mono ?_)
      rintro e1 w6 ⟨rfl, hb6⟩
      exact hK.out _ _ rfl (Chain.up hS hb6) hb6
    refine StepsI.skip (by kernel_rfl) ?_
    refine StepsI.skip (by kernel_rfl) ?_
    refine StepsI.skip (by kernel_rfl) ?_
    refine StepsI.skip (by kernel_rfl) ?_
    exact StepsI.nil
  · intro vals wx hS hR
    have hv4 : vals 4 = .slice a l.length c := hR (4, some 8) (by decide)
    have hv7 : vals 7 = S T := hR (7, some 11) (by decide)
    simp only [fillA, Act.put, List.setIfInBounds_toArray, List.set_cons_zero, List.set_cons_succ, hv4, hv7]
    clear hR hv4 hv7
    generalize vals 6 = x6
    clear vals
    have hxx := hx.up hS
    have hownx := hown.upO hS
    have hzx := hS.size
    refine wpAnyH_one (i := 8) (by kernel_rfl) rfl (fun K hK => ?_)
    simp only [nrm]
    rw [if_pos (by rfl)]
    refine wp_strQ _ _ (by rfl) (g + 1) _ l T (by rfl) hownx (by rfl) (by have := HL.out; omega) (by omega) ?_
    intro b2 c2 w8 hown8 hb8 hkt8
    have hx8 := hxx.below hb8 (by omega)
    have hS8 := (hS.mono hg0).trans (hb8.mono (by omega))
    have f8 := hx8.frozen 0
    have d8 : w8.cell? ⟨g, 0, none⟩ = some (.slice a l.length c) := hx8.cell 0
    refine hK.out _ _ hS8 ?_
    simp only [Act.put, nrm]
    clear hK K
    refine wpAnyH_take (i := 9) (v := ?_) rfl (by kernel_rfl) (by kernel_rfl) (by kernel_rfl) (fun _ _ _ h => h) (Or.inl ⟨by rfl, ?_⟩) hS8 ?_
    rotate_left
    · intro wq hSw; go_simp; (try with_reducible rfl)
    simp only [Act.put, nrm]
    refine wpAnyH_take (i := 10) (v := ?_) rfl (by kernel_rfl) (by kernel_rfl) (by kernel_rfl) (fun _ _ _ h => h) (Or.inl ⟨by rfl, ?_⟩) hS8 ?_
    rotate_left
    · intro wq hSw; go_simp; (try with_reducible rfl)
    simp only [Act.put, nrm]
    refine wpAnyH_one (i := 11) (by kernel_rfl) rfl (fun K hK => ?_)
    simp only [nrm]
    go_simp
    refine hK.out _ _ (hS8.setCell (p := ⟨g, 0, none⟩) (Nat.le_refl _) _) ?_
    clear hK K
    refine wpAnyH_done (by kernel_rfl) ?_ _
    go_wp2_with fail
    go_end0
    exact ⟨rfl, ⟨b2, c2, by rw [List.length_append]; exact hx8.set 0 _, by rw [List.length_append]; exact own_rowsQ.2 ((own_rowsQ.1 hown8).other (by omega) 0 _)⟩, hS8.setCell (p := ⟨g, 0, none⟩) (Nat.le_refl _) _, ((KeptW.of hS).trans (KeptW.kt hkt8)).trans (KeptW.set _ _ _)⟩
set_option maxRecDepth 100000 in
set_option maxHeartbeats 4000000 in
theorem wnumber_any (g : Nat) (l : List UInt8) (n : Nat) (w : World) (hl : l.length ≤ 900000) (h : Wr w g l) (hn : n < 18446744073709551616) :
    Calls Tryd.prog 35 #[.pointer (some ⟨g, 0, none⟩), V64 n] w fun e w' => e = .returned (.tuple #[]) ∧ Wr w' g (l ++ P.row n) ∧ Below g w w' ∧ KeptW g w w' := by
  have HT := Lib.hid (fun (g0 c0 : Nat) (wx : World) (hp : NumsAt wx (some ⟨g0, 0, none⟩) [n]) => show Calls Tryd.prog 75 #[.slice (some ⟨g0, 0, none⟩) 1 c0] wx fun e w' => e = .returned (S (P.row n)) ∧ Below wx.heap.size wx w' from by
    have h := var_any (some ⟨g0, 0, none⟩) c0 [n] wx (by simp) (fun x hx => by obtain rfl := List.mem_singleton.1 hx; exact hn) hp
    rw [show P.vars [n] = P.row n by simp [P.vars]] at h
    exact h)
  have HL := Lib.hid (show (P.row n).length ≤ 20009 by have := P.row_len9 n; omega)
  generalize P.row n = T at *
  obtain ⟨a, c, hx, hown⟩ := h
  have hg0 : g ≤ w.heap.size := Nat.le_of_lt hx.lt
  have hlt := hx.lt
  go_enter Tryd.func35, Tryd.ntmps35
  go_wp2_with fail
  refine wp_region_held_drew (S := fun wx => Below g w wx) (by kernel_rfl) (Below.refl _ _).drew (fun hHeld => ?_)
  refine wpAnyH_take (i := 0) (v := ?_) rfl (by kernel_rfl) (by kernel_rfl) (by kernel_rfl) (fun _ _ _ h => h) (Or.inl ⟨by rfl, ?_⟩) hHeld ?_
  rotate_left
  · intro wq hSw; go_simp; (try with_reducible rfl)
  simp only [Act.put, nrm]
  refine wpAnyH_take (i := 1) (v := ?_) rfl (by kernel_rfl) (by kernel_rfl) (by kernel_rfl) (fun _ _ _ h => h) (Or.inl ⟨by rfl, ?_⟩) hHeld ?_
  rotate_left
  · intro wq hSw; go_simp; (try with_reducible rfl)
  simp only [Act.put, nrm]
  refine wpAnyH_take (i := 2) (v := ?_) rfl (by kernel_rfl) (by kernel_rfl) (by kernel_rfl) (fun _ _ _ h => h) (Or.inl ⟨by rfl, ?_⟩) hHeld ?_
  rotate_left
  · intro wq hSw; go_simp; (try with_reducible rfl)
  simp only [Act.put, nrm]
  refine wpAnyH_take (i := 3) (v := ?_) rfl (by kernel_rfl) (by kernel_rfl) (by kernel_rfl) (fun _ _ _ h => h) (Or.inl ⟨by rfl, ?_⟩) hHeld ?_
  rotate_left
  · intro wq hSw; go_simp; (try with_reducible rfl)
  simp only [Act.put, nrm]
  refine wpAnyH_take (i := 5) (v := ?_) rfl (by kernel_rfl) (by kernel_rfl) (by kernel_rfl) (fun _ _ _ h => h) (Or.inl ⟨by rfl, ?_⟩) hHeld ?_
  rotate_left
  · intro wq hSw; go_simp; (try with_reducible rfl)
  simp only [Act.put, nrm]
  refine wpAnyH_by2 (nmQ (.slice a l.length c) T n) (fun wx => Below w.heap.size w wx) (fun wx wy => Below wx.heap.size wx wy) [(4, some 8), (6, some 10), (7, some 11)] 4 (fun wx hx => hx.mono hg0) rfl (by kernel_rfl) (by kernel_rfl) (by kernel_rfl) (by kernel_rfl) (by kernel_rfl) (by kernel_rfl) (by kernel_rfl) (nmQ_up (.slice a l.length c) T n) (Below.refl _ _).drew ?_ ?_
  · skip
    refine StepsI.skip (by kernel_rfl) ?_
    refine StepsI.skip (by kernel_rfl) ?_
    refine StepsI.skip (by kernel_rfl) ?_
    refine StepsI.skip (by kernel_rfl) ?_
    refine StepsI.cons (fun vals wx hS hd K hK => ?_) ?_
    · simp only [fillA, Act.put, List.setIfInBounds_toArray, List.set_cons_zero, List.set_cons_succ] at hK ⊢
      have q0 : wx.cell? ⟨g, 0, none⟩ = some (.slice a l.length c) := (hx.up hS).cell 0
      go_simp
      exact hK.out _ _ rfl hS (Below.refl _ _)
    refine StepsI.skip (by kernel_rfl) ?_
    refine StepsI.cons (fun vals wx hS hd K hK => ?_) ?_
    · simp only [fillA, Act.put, List.setIfInBounds_toArray, List.set_cons_zero, List.set_cons_succ] at hK ⊢
      go_simp
      exact hK.out _ _ ⟨_, rfl, nums_new wx [n] _ _ rfl⟩ (hS.alloc hS.size _) ((Below.refl _ _).alloc (Nat.le_refl _) _)
    refine StepsI.cons (fun vals wx hS hd K hK => ?_) ?_
    · simp only [fillA, Act.put, List.setIfInBounds_toArray, List.set_cons_zero, List.set_cons_succ] at hK ⊢
      obtain ⟨g1, h1, p1⟩ := hd 6 (some 10) (by decide) (by kernel_rfl)
      simp only [h1] at hK ⊢
      go_simp
      (with_reducible refine (HT.out _ _ _ p1).mono ?_)
      rintro e1 w6 ⟨rfl, hb6⟩
      exact hK.out _ _ rfl (Chain.up hS hb6) hb6
    refine StepsI.skip (by kernel_rfl) ?_
    refine StepsI.skip (by kernel_rfl) ?_
    refine StepsI.skip (by kernel_rfl) ?_
    refine StepsI.skip (by kernel_rfl) ?_
    exact StepsI.nil
  · intro vals wx hS hR
    have hv4 : vals 4 = .slice a l.length c := hR (4, some 8) (by decide)
    have hv7 : vals 7 = S T := hR (7, some 11) (by decide)
    simp only [fillA, Act.put, List.setIfInBounds_toArray, List.set_cons_zero, List.set_cons_succ, hv4, hv7]
    clear hR hv4 hv7
    generalize vals 6 = x6
    clear vals
    have hxx := hx.up hS
    have hownx := hown.upO hS
    have hzx := hS.size
    refine wpAnyH_one (i := 8) (by kernel_rfl) rfl (fun K hK => ?_)
    simp only [nrm]
    rw [if_pos (by rfl)]
    refine wp_strQ _ _ (by rfl) (g + 1) _ l T (by rfl) hownx (by rfl) (by have := HL.out; omega) (by omega) ?_
    intro b2 c2 w8 hown8 hb8 hkt8
    have hx8 := hxx.below hb8 (by omega)
    have hS8 := (hS.mono hg0).trans (hb8.mono (by omega))
    have f8 := hx8.frozen 0
    have d8 : w8.cell? ⟨g, 0, none⟩ = some (.slice a l.length c) := hx8.cell 0
    refine hK.out _ _ hS8 ?_
    simp only [Act.put, nrm]
    clear hK K
    refine wpAnyH_take (i := 9) (v := ?_) rfl (by kernel_rfl) (by kernel_rfl) (by kernel_rfl) (fun _ _ _ h => h) (Or.inl ⟨by rfl, ?_⟩) hS8 ?_
    rotate_left
    · intro wq hSw; go_simp; (try with_reducible rfl)
    simp only [Act.put, nrm]
    refine wpAnyH_take (i := 10) (v := ?_) rfl (by kernel_rfl) (by kernel_rfl) (by kernel_rfl) (fun _ _ _ h => h) (Or.inl ⟨by rfl, ?_⟩) hS8 ?_
    rotate_left
    · intro wq hSw; go_simp; (try with_reducible rfl)
    simp only [Act.put, nrm]
    refine wpAnyH_one (i := 11) (by kernel_rfl) rfl (fun K hK => ?_)
    simp only [nrm]
    go_simp
    refine hK.out _ _ (hS8.setCell (p := ⟨g, 0, none⟩) (Nat.le_refl _) _) ?_
    clear hK K
    refine wpAnyH_done (by kernel_rfl) ?_ _
    go_wp2_with fail
    go_end0
    exact ⟨rfl, ⟨b2, c2, by rw [List.length_append]; exact hx8.set 0 _, by rw [List.length_append]; exact own_rowsQ.2 ((own_rowsQ.1 hown8).other (by omega) 0 _)⟩, hS8.setCell (p := ⟨g, 0, none⟩) (Nat.le_refl _) _, ((KeptW.of hS).trans (KeptW.kt hkt8)).trans (KeptW.set _ _ _)⟩
set_option maxRecDepth 100000 in
set_option maxHeartbeats 4000000 in
theorem waddr_any (g : Nat) (l : List UInt8) (x : P.Ad) (w : World) (hl : l.length ≤ 900000) (h : Wr w g l) (ht : P.tyA x) :
    Calls Tryd.prog 33 #[.pointer (some ⟨g, 0, none⟩), adV x] w fun e w' => e = .returned (.tuple #[]) ∧ Wr w' g (l ++ P.adX x) ∧ Below g w w' ∧ KeptW g w w' := by
  have HB := Lib.hid (fun wx => adBytes_any x ht wx)
  have HL := Lib.hid (show (P.adB x).length ≤ 16 by unfold P.adB; split <;> (try split) <;> simp [P.be_length])
  have Hre := Lib.hid (show P.adX x = [P.byt x.fam] ++ P.adB x from rfl)
  have hfam := ht.1
  obtain ⟨a, c, hx0, hown0⟩ := h
  have hg0' := hx0.lt
  have hA := (Below.refl w.heap.size w).alloc (Nat.le_refl _) (.cells #[.int .u8 (x.fam : Nat), V64 x.hi, V64 x.lo] 24)
  have hx := hx0.up hA
  have hown := hown0.upO hA
  have hbx := Bx.fresh w 24 #[.int .u8 (x.fam : Nat), V64 x.hi, V64 x.lo]
  go_enter Tryd.func33, Tryd.ntmps33
  go_wp2_with fail
  generalize hW1 : w.alloc (.cells #[.int .u8 (x.fam : Nat), V64 x.hi, V64 x.lo] 24) = w1 at *
  clear hW1 hx0 hown0
  have hg1 : g + 1 ≤ w1.heap.size := hx.lt
  have hg0 : g ≤ w1.heap.size := Nat.le_of_lt hx.lt
  generalize P.adB x = T at *
  refine wp_region_held_drew (S := fun wx => Below g w1 wx ∧ Bx wx w.heap.size 24 #[.int .u8 (x.fam : Nat), V64 x.hi, V64 x.lo]) (by kernel_rfl) ⟨(Below.refl _ _).drew, hbx.drew⟩ (fun hHeld => ?_)
  refine wpAnyH_take (i := 0) (v := ?_) rfl (by kernel_rfl) (by kernel_rfl) (by kernel_rfl) (fun _ _ _ h => h) (Or.inl ⟨by rfl, ?_⟩) hHeld ?_
  rotate_left
  · intro wq hSw; go_simp; (try with_reducible rfl)
  simp only [Act.put, nrm]
  refine wpAnyH_take (i := 1) (v := ?_) rfl (by kernel_rfl) (by kernel_rfl) (by kernel_rfl) (fun _ _ _ h => h) (Or.inl ⟨by rfl, ?_⟩) hHeld ?_
  rotate_left
  · intro wq hSw; go_simp; (try with_reducible rfl)
  simp only [Act.put, nrm]
  refine wpAnyH_take (i := 2) (v := ?_) rfl (by kernel_rfl) (by kernel_rfl) (by kernel_rfl) (fun _ _ _ h => h) (Or.inl ⟨by rfl, ?_⟩) hHeld ?_
  rotate_left
  · intro wq hSw; go_simp; (try with_reducible rfl)
  simp only [Act.put, nrm]
  refine wpAnyH_take (i := 3) (v := ?_) rfl (by kernel_rfl) (by kernel_rfl) (by kernel_rfl) (fun _ _ _ h => h) (Or.inl ⟨by rfl, ?_⟩) hHeld ?_
  rotate_left
  · intro wq hSw; go_simp; (try with_reducible rfl)
  simp only [Act.put, nrm]
  refine wpAnyH_take (i := 5) (v := ?_) rfl (by kernel_rfl) (by kernel_rfl) (by kernel_rfl) (fun _ _ _ h => h) (Or.inl ⟨by rfl, ?_⟩) hHeld ?_
  rotate_left
  · intro wq hSw; go_simp; (try with_reducible rfl)
  simp only [Act.put, nrm]
  refine wpAnyH_take (i := 9) (v := ?_) rfl (by kernel_rfl) (by kernel_rfl) (by kernel_rfl) (fun _ _ _ h => h) (Or.inl ⟨by rfl, ?_⟩) hHeld ?_
  rotate_left
  · intro wq hSw; obtain ⟨q0, q1, q2, _, _, _⟩ := hSw.2.three; go_simp; (try with_reducible rfl)
  simp only [Act.put, nrm]
  refine wpAnyH_by2 (adQ (.slice a l.length c) x) (fun wx => Below w1.heap.size w1 wx) (fun wx wy => Below wx.heap.size wx wy) [(4, some 8), (6, some 10), (7, some 11)] 6 (fun wx hx => ⟨hx.mono hg0, hbx.up hx⟩) rfl (by kernel_rfl) (by kernel_rfl) (by kernel_rfl) (by kernel_rfl) (by kernel_rfl) (by kernel_rfl) (by kernel_rfl) (adQ_up (.slice a l.length c) x) (Below.refl _ _).drew ?_ ?_
  · skip
    refine StepsI.skip (by kernel_rfl) ?_
    refine StepsI.skip (by kernel_rfl) ?_
    refine StepsI.skip (by kernel_rfl) ?_
    refine StepsI.skip (by kernel_rfl) ?_
    refine StepsI.cons (fun vals wx hS hd K hK => ?_) ?_
    · simp only [fillA, Act.put, List.setIfInBounds_toArray, List.set_cons_zero, List.set_cons_succ] at hK ⊢
      have q0 : wx.cell? ⟨g, 0, none⟩ = some (.slice a l.length c) := (hx.up hS).cell 0
      go_simp
      exact hK.out _ _ rfl hS (Below.refl _ _)
    refine StepsI.skip (by kernel_rfl) ?_
    refine StepsI.cons (fun vals wx hS hd K hK => ?_) ?_
    · simp only [fillA, Act.put, List.setIfInBounds_toArray, List.set_cons_zero, List.set_cons_succ] at hK ⊢
      obtain ⟨q0, q1, q2, _, _, _⟩ := (hbx.up hS).three
      go_simp
      exact hK.out _ _ rfl hS (Below.refl _ _)
    refine StepsI.cons (fun vals wx hS hd K hK => ?_) ?_
    · simp only [fillA, Act.put, List.setIfInBounds_toArray, List.set_cons_zero, List.set_cons_succ] at hK ⊢
      have h1 : vals 6 = .int .u8 (x.fam : Nat) := hd 6 (some 10) (by decide) (by kernel_rfl)
      simp only [h1] at hK ⊢
      go_simp
      exact hK.out _ _ ⟨_, rfl, rows_new 1 byQ byQ_len wx [P.byt x.fam] _ _ (by rw [u8_byt x.fam hfam]; rfl)⟩ (hS.alloc hS.size _) ((Below.refl _ _).alloc (Nat.le_refl _) _)
    refine StepsI.skip (by kernel_rfl) ?_
    refine StepsI.skip (by kernel_rfl) ?_
    refine StepsI.skip (by kernel_rfl) ?_
    refine StepsI.skip (by kernel_rfl) ?_
    refine StepsI.skip (by kernel_rfl) ?_
    refine StepsI.skip (by kernel_rfl) ?_
    refine StepsI.skip (by kernel_rfl) ?_
    exact StepsI.nil
  · intro vals wx hS hR
    have hv4 : vals 4 = .slice a l.length c := hR (4, some 8) (by decide)
    obtain ⟨g1, hv7, hr7⟩ : ∃ g1, vals 7 = .slice (some ⟨g1, 0, none⟩) 1 1 ∧ RowsAt 1 byQ wx (some ⟨g1, 0, none⟩) [P.byt x.fam] := hR (7, some 11) (by decide)
    simp only [fillA, Act.put, List.setIfInBounds_toArray, List.set_cons_zero, List.set_cons_succ, hv4, hv7]
    clear hR hv4 hv7
    generalize vals 6 = x6
    clear vals
    have hxx := hx.up hS
    have hownx := hown.upO hS
    have hzx := hS.size
    refine wpAnyH_one (i := 8) (by kernel_rfl) rfl (fun K hK => ?_)
    simp only [nrm]
    rw [if_pos (by rfl)]
    refine wp_appQ _ _ (by rfl) (g + 1) _ l [P.byt x.fam] (by rfl) hownx (by simp only [List.length_singleton]; omega) _ _ _ (by rfl) (by rfl) hr7 (by omega) ?_
    intro b2 c2 w8 hown8 hb8 hkt8
    have hx8 := hxx.below hb8 (by omega)
    have hS8 := (hS.mono hg0).trans (hb8.mono (by omega))
    have hz8 := hb8.size
    have hbx8 : Bx w8 w.heap.size 24 #[.int .u8 (x.fam : Nat), V64 x.hi, V64 x.lo] := hkt8 _ _ _ _ (by decide) (hbx.up hS)
    refine hK.out _ _ ⟨hS8, hbx8⟩ ?_
    simp only [Act.put, nrm]
    clear hK K
    refine wpAnyH_one (i := 10) (by kernel_rfl) rfl (fun K hK => ?_)
    simp only [nrm]
    go_simp
    (with_reducible refine (HB.out _).mono ?_)
    rintro e1 w9 ⟨rfl, hb9⟩
    have hx9 := hx8.up hb9
    have hown9 := hown8.upO hb9
    have hS9 := hS8.trans (hb9.mono (by omega))
    have hz9 := hb9.size
    have hbx9 := hbx8.up hb9
    refine hK.out _ _ ⟨hS9, hbx9⟩ ?_
    clear hK K
    refine wpAnyH_one (i := 11) (by kernel_rfl) rfl (fun K hK => ?_)
    simp only [nrm]
    rw [if_pos (by rfl)]
    refine wp_strQ _ _ (by rfl) (g + 1) (.slice b2 (l.length + 1) c2) (l ++ [P.byt x.fam]) T (by rfl) hown9 (by rfl) (by have := HL.out; simp only [List.length_append, List.length_singleton]; omega) (by omega) ?_
    intro b3 c3 w10 hown10 hb10 hkt10
    have hx10 := hx9.below hb10 (by omega)
    have hS10 := hS9.trans (hb10.mono (by omega))
    have f10 := hx10.frozen 0
    have d10 : w10.cell? ⟨g, 0, none⟩ = some (.slice a l.length c) := hx10.cell 0
    have hbx10 : Bx w10 w.heap.size 24 #[.int .u8 (x.fam : Nat), V64 x.hi, V64 x.lo] := hkt10 _ _ _ _ (by decide) hbx9
    refine hK.out _ _ ⟨hS10, hbx10⟩ ?_
    simp only [Act.put, nrm]
    clear hK K
    refine wpAnyH_take (i := 12) (v := ?_) rfl (by kernel_rfl) (by kernel_rfl) (by kernel_rfl) (fun _ _ _ h => h) (Or.inl ⟨by rfl, ?_⟩) ⟨hS10, hbx10⟩ ?_
    rotate_left
    · intro wq hSw; go_simp; (try with_reducible rfl)
    simp only [Act.put, nrm]
    refine wpAnyH_take (i := 13) (v := ?_) rfl (by kernel_rfl) (by kernel_rfl) (by kernel_rfl) (fun _ _ _ h => h) (Or.inl ⟨by rfl, ?_⟩) ⟨hS10, hbx10⟩ ?_
    rotate_left
    · intro wq hSw; go_simp; (try with_reducible rfl)
    simp only [Act.put, nrm]
    refine wpAnyH_one (i := 14) (by kernel_rfl) rfl (fun K hK => ?_)
    simp only [nrm]
    go_simp
    refine hK.out _ _ ⟨hS10.setCell (p := ⟨g, 0, none⟩) (Nat.le_refl _) _, hbx10.other (by omega) 0 _⟩ ?_
    clear hK K
    refine wpAnyH_done (by kernel_rfl) ?_ _
    go_wp2_with fail
    go_end0
    have hres : l ++ P.adX x = l ++ [P.byt x.fam] ++ T := by rw [Hre.out, List.append_assoc]
    rw [hres]
    have hll : (l ++ [P.byt x.fam] ++ T).length = l.length + 1 + T.length := by simp; omega
    rw [show (l ++ [P.byt x.fam]).length = l.length + 1 by simp] at hown10
    refine ⟨rfl, ⟨b3, c3, ?_, ?_⟩, ?_, ((((KeptW.of hA).trans (KeptW.of hS)).trans ((KeptW.kt hkt8).trans (KeptW.of hb9))).trans (KeptW.kt hkt10)).trans (KeptW.set _ _ _)⟩
    · rw [hll]; exact hx10.set 0 _
    · rw [hll]; exact own_rowsQ.2 ((own_rowsQ.1 hown10).other (by omega) 0 _)
    · exact Below.setCell (p := ⟨g, 0, none⟩) ((hA.mono (Nat.le_of_lt hg0')).trans hS10) (Nat.le_refl g) _
set_option maxRecDepth 100000 in
set_option maxHeartbeats 4000000 in
theorem whead_any (g : Nat) (l : List UInt8) (x : P.Ca) (w : World) (hl : l.length ≤ 900000) (h : Wr w g l) (ho : x.op < 256) (hc : x.client < 256) (hn : x.number < 18446744073709551616) :
    Calls Tryd.prog 31 #[.pointer (some ⟨g, 0, none⟩), caV x] w fun e w' => e = .returned (.tuple #[]) ∧ Wr w' g (l ++ P.headB x.op x.client x.number) ∧ Below g w w' ∧ KeptW g w w' := by
  have HB := Lib.hid (fun wx => bigPut8 x.number hn wx)
  have HL := Lib.hid (P.be_length 8 x.number)
  have Hre := Lib.hid (show P.headB x.op x.client x.number = [P.byt x.op, P.byt x.client] ++ P.be 8 x.number from rfl)
  generalize P.be 8 x.number = T at *
  generalize P.headB x.op x.client x.number = R at *
  obtain ⟨a, c, hx0, hown0⟩ := h
  have hg0' := hx0.lt
  have hA := (Below.refl w.heap.size w).alloc (Nat.le_refl _) (.cells #[.int .u8 (x.op : Nat), .int .u8 (x.client : Nat), V64 x.number, .int .u8 (x.p.a.fam : Nat), V64 x.p.a.hi, V64 x.p.a.lo, .int .i64 x.p.bits, .int .u8 (x.a.fam : Nat), V64 x.a.hi, V64 x.a.lo, S x.owner, S x.to, V64 x.d, V64 x.fr, .int .i64 x.n] 28)
  have hbx0 := Bx.fresh w 28 #[.int .u8 (x.op : Nat), .int .u8 (x.client : Nat), V64 x.number, .int .u8 (x.p.a.fam : Nat), V64 x.p.a.hi, V64 x.p.a.lo, .int .i64 x.p.bits, .int .u8 (x.a.fam : Nat), V64 x.a.hi, V64 x.a.lo, S x.owner, S x.to, V64 x.d, V64 x.fr, .int .i64 x.n]
  have k2 : (w.alloc (.cells #[.int .u8 (x.op : Nat), .int .u8 (x.client : Nat), V64 x.number, .int .u8 (x.p.a.fam : Nat), V64 x.p.a.hi, V64 x.p.a.lo, .int .i64 x.p.bits, .int .u8 (x.a.fam : Nat), V64 x.a.hi, V64 x.a.lo, S x.owner, S x.to, V64 x.d, V64 x.fr, .int .i64 x.n] 28)).cell? ⟨w.heap.size, 2, none⟩ = some (V64 x.number) := hbx0.cell 2
  go_enter Tryd.func31, Tryd.ntmps31
  go_wp2_with (go_at_call 72; (with_reducible refine (HB.out _).mono ?_); rintro e w1 ⟨rfl, hb1⟩)
  have hAb := Chain.up hA hb1
  have hx := hx0.up hAb
  have hown := hown0.upO hAb
  have hbx := hbx0.up hb1
  have hg1 : g + 1 ≤ w1.heap.size := hx.lt
  have hg0 : g ≤ w1.heap.size := Nat.le_of_lt hx.lt
  refine wp_region_held_drew (S := fun wx => Below g w1 wx) (by kernel_rfl) (Below.refl _ _).drew (fun hHeld => ?_)
  refine wpAnyH_take (i := 0) (v := ?_) rfl (by kernel_rfl) (by kernel_rfl) (by kernel_rfl) (fun _ _ _ h => h) (Or.inl ⟨by rfl, ?_⟩) hHeld ?_
  rotate_left
  · intro wq hSw; go_simp; (try with_reducible rfl)
  simp only [Act.put, nrm]
  refine wpAnyH_take (i := 1) (v := ?_) rfl (by kernel_rfl) (by kernel_rfl) (by kernel_rfl) (fun _ _ _ h => h) (Or.inl ⟨by rfl, ?_⟩) hHeld ?_
  rotate_left
  · intro wq hSw; go_simp; (try with_reducible rfl)
  simp only [Act.put, nrm]
  refine wpAnyH_take (i := 2) (v := ?_) rfl (by kernel_rfl) (by kernel_rfl) (by kernel_rfl) (fun _ _ _ h => h) (Or.inl ⟨by rfl, ?_⟩) hHeld ?_
  rotate_left
  · intro wq hSw; go_simp; (try with_reducible rfl)
  simp only [Act.put, nrm]
  refine wpAnyH_take (i := 3) (v := ?_) rfl (by kernel_rfl) (by kernel_rfl) (by kernel_rfl) (fun _ _ _ h => h) (Or.inl ⟨by rfl, ?_⟩) hHeld ?_
  rotate_left
  · intro wq hSw; go_simp; (try with_reducible rfl)
  simp only [Act.put, nrm]
  refine wpAnyH_take (i := 5) (v := ?_) rfl (by kernel_rfl) (by kernel_rfl) (by kernel_rfl) (fun _ _ _ h => h) (Or.inl ⟨by rfl, ?_⟩) hHeld ?_
  rotate_left
  · intro wq hSw; go_simp; (try with_reducible rfl)
  simp only [Act.put, nrm]
  refine wpAnyH_take (i := 7) (v := ?_) rfl (by kernel_rfl) (by kernel_rfl) (by kernel_rfl) (fun _ _ _ h => h) (Or.inl ⟨by rfl, ?_⟩) hHeld ?_
  rotate_left
  · intro wq hSw; go_simp; (try with_reducible rfl)
  simp only [Act.put, nrm]
  refine wpAnyH_take (i := 11) (v := ?_) rfl (by kernel_rfl) (by kernel_rfl) (by kernel_rfl) (fun _ _ _ h => h) (Or.inl ⟨by rfl, ?_⟩) hHeld ?_
  rotate_left
  · intro wq hSw; go_simp; (try with_reducible rfl)
  simp only [Act.put, nrm]
  refine wpAnyH_by2 (hdQ (.slice a l.length c) x) (fun wx => Below w1.heap.size w1 wx) (fun wx wy => Below wx.heap.size wx wy) [(4, some 16), (6, some 18), (8, some 20), (9, some 21)] 5 (fun wx hx => hx.mono hg0) rfl (by kernel_rfl) (by kernel_rfl) (by kernel_rfl) (by kernel_rfl) (by kernel_rfl) (by kernel_rfl) (by kernel_rfl) (hdQ_up (.slice a l.length c) x) (Below.refl _ _).drew ?_ ?_
  · skip
    refine StepsI.skip (by kernel_rfl) ?_
    refine StepsI.skip (by kernel_rfl) ?_
    refine StepsI.skip (by kernel_rfl) ?_
    refine StepsI.skip (by kernel_rfl) ?_
    refine StepsI.cons (fun vals wx hS hd K hK => ?_) ?_
    · simp only [fillA, Act.put, List.setIfInBounds_toArray, List.set_cons_zero, List.set_cons_succ] at hK ⊢
      have q0 : wx.cell? ⟨g, 0, none⟩ = some (.slice a l.length c) := (hx.up hS).cell 0
      go_simp
      exact hK.out _ _ rfl hS (Below.refl _ _)
    refine StepsI.skip (by kernel_rfl) ?_
    refine StepsI.cons (fun vals wx hS hd K hK => ?_) ?_
    · simp only [fillA, Act.put, List.setIfInBounds_toArray, List.set_cons_zero, List.set_cons_succ] at hK ⊢
      have q0 : wx.cell? ⟨w.heap.size, 0, none⟩ = some (.int .u8 (x.op : Nat)) := (hbx.up hS).cell 0
      go_simp
      exact hK.out _ _ rfl hS (Below.refl _ _)
    refine StepsI.skip (by kernel_rfl) ?_
    refine StepsI.cons (fun vals wx hS hd K hK => ?_) ?_
    · simp only [fillA, Act.put, List.setIfInBounds_toArray, List.set_cons_zero, List.set_cons_succ] at hK ⊢
      have q0 : wx.cell? ⟨w.heap.size, 1, none⟩ = some (.int .u8 (x.client : Nat)) := (hbx.up hS).cell 1
      go_simp
      exact hK.out _ _ rfl hS (Below.refl _ _)
    refine StepsI.cons (fun vals wx hS hd K hK => ?_) ?_
    · simp only [fillA, Act.put, List.setIfInBounds_toArray, List.set_cons_zero, List.set_cons_succ] at hK ⊢
      have h1 : vals 6 = .int .u8 (x.op : Nat) := hd 6 (some 18) (by decide) (by kernel_rfl)
      have h2 : vals 8 = .int .u8 (x.client : Nat) := hd 8 (some 20) (by decide) (by kernel_rfl)
      simp only [h1, h2] at hK ⊢
      go_simp
      exact hK.out _ _ ⟨_, rfl, rows_new 1 byQ byQ_len wx [P.byt x.op, P.byt x.client] _ _ (by rw [u8_byt x.op ho, u8_byt x.client hc]; rfl)⟩ (hS.alloc hS.size _) ((Below.refl _ _).alloc (Nat.le_refl _) _)
    refine StepsI.skip (by kernel_rfl) ?_
    refine StepsI.skip (by kernel_rfl) ?_
    refine StepsI.skip (by kernel_rfl) ?_
    refine StepsI.skip (by kernel_rfl) ?_
    refine StepsI.skip (by kernel_rfl) ?_
    refine StepsI.skip (by kernel_rfl) ?_
    exact StepsI.nil
  · intro vals wx hS hR
    have hv4 : vals 4 = .slice a l.length c := hR (4, some 16) (by decide)
    obtain ⟨g1, hv7, hr7⟩ : ∃ g1, vals 9 = .slice (some ⟨g1, 0, none⟩) 2 2 ∧ RowsAt 1 byQ wx (some ⟨g1, 0, none⟩) [P.byt x.op, P.byt x.client] := hR (9, some 21) (by decide)
    simp only [fillA, Act.put, List.setIfInBounds_toArray, List.set_cons_zero, List.set_cons_succ, hv4, hv7]
    clear hR hv4 hv7
    generalize vals 6 = x6
    generalize vals 8 = x8
    clear vals
    have hxx := hx.up hS
    have hownx := hown.upO hS
    have hzx := hS.size
    refine wpAnyH_one (i := 10) (by kernel_rfl) rfl (fun K hK => ?_)
    simp only [nrm]
    rw [if_pos (by rfl)]
    refine wp_appQ _ _ (by rfl) (g + 1) _ l [P.byt x.op, P.byt x.client] (by rfl) hownx (by simp only [List.length_cons, List.length_nil]; omega) _ _ _ (by rfl) (by rfl) hr7 (by omega) ?_
    intro b2 c2 w8 hown8 hb8 hkt8
    have hx8 := hxx.below hb8 (by omega)
    have hS8 := (hS.mono hg0).trans (hb8.mono (by omega))
    have hz8 := hb8.size
    refine hK.out _ _ hS8 ?_
    simp only [Act.put, nrm]
    clear hK K
    refine wpAnyH_one (i := 12) (by kernel_rfl) rfl (fun K hK => ?_)
    simp only [nrm]
    rw [if_pos (by rfl)]
    refine wp_strQ _ _ (by rfl) (g + 1) (.slice b2 (l.length + 2) c2) (l ++ [P.byt x.op, P.byt x.client]) T (by rfl) hown8 (by rfl) (by have := HL.out; simp only [List.length_append, List.length_cons, List.length_nil]; omega) (by omega) ?_
    intro b3 c3 w10 hown10 hb10 hkt10
    have hx10 := hx8.below hb10 (by omega)
    have hS10 := hS8.trans (hb10.mono (by omega))
    have f10 := hx10.frozen 0
    have d10 : w10.cell? ⟨g, 0, none⟩ = some (.slice a l.length c) := hx10.cell 0
    refine hK.out _ _ hS10 ?_
    simp only [Act.put, nrm]
    clear hK K
    refine wpAnyH_take (i := 13) (v := ?_) rfl (by kernel_rfl) (by kernel_rfl) (by kernel_rfl) (fun _ _ _ h => h) (Or.inl ⟨by rfl, ?_⟩) hS10 ?_
    rotate_left
    · intro wq hSw; go_simp; (try with_reducible rfl)
    simp only [Act.put, nrm]
    refine wpAnyH_take (i := 14) (v := ?_) rfl (by kernel_rfl) (by kernel_rfl) (by kernel_rfl) (fun _ _ _ h => h) (Or.inl ⟨by rfl, ?_⟩) hS10 ?_
    rotate_left
    · intro wq hSw; go_simp; (try with_reducible rfl)
    simp only [Act.put, nrm]
    refine wpAnyH_one (i := 15) (by kernel_rfl) rfl (fun K hK => ?_)
    simp only [nrm]
    go_simp
    refine hK.out _ _ (hS10.setCell (p := ⟨g, 0, none⟩) (Nat.le_refl _) _) ?_
    clear hK K
    refine wpAnyH_done (by kernel_rfl) ?_ _
    go_wp2_with fail
    go_end0
    have hres : l ++ R = l ++ [P.byt x.op, P.byt x.client] ++ T := by rw [Hre.out, List.append_assoc]
    rw [hres]
    have hll : (l ++ [P.byt x.op, P.byt x.client] ++ T).length = l.length + 2 + T.length := by simp; omega
    rw [show (l ++ [P.byt x.op, P.byt x.client]).length = l.length + 2 by simp] at hown10
    refine ⟨rfl, ⟨b3, c3, ?_, ?_⟩, ?_, ((((KeptW.of hAb).trans (KeptW.of hS)).trans (KeptW.kt hkt8)).trans (KeptW.kt hkt10)).trans (KeptW.set _ _ _)⟩
    · rw [hll]; exact hx10.set 0 _
    · rw [hll]; exact own_rowsQ.2 ((own_rowsQ.1 hown10).other (by omega) 0 _)
    · exact Below.setCell (p := ⟨g, 0, none⟩) ((hAb.mono (Nat.le_of_lt hg0')).trans hS10) (Nat.le_refl g) _
set_option maxRecDepth 100000 in
set_option maxHeartbeats 4000000 in
theorem wprefix_any (g : Nat) (l : List UInt8) (x : P.Px) (w : World) (hl : l.length ≤ 800000) (h : Wr w g l) (ht : P.tyX x) :
    Calls Tryd.prog 32 #[.pointer (some ⟨g, 0, none⟩), pxV x] w fun e w' => e = .returned (.tuple #[]) ∧ Wr w' g (l ++ P.pxX x) ∧ Below g w w' ∧ KeptW g w w' := by
  have hbx0 := Bx.fresh w 26 #[.int .u8 (x.a.fam : Nat), V64 x.a.hi, V64 x.a.lo, .int .i64 x.bits]
  have hA := (Below.refl w.heap.size w).alloc (Nat.le_refl _) (.cells #[.int .u8 (x.a.fam : Nat), V64 x.a.hi, V64 x.a.lo, .int .i64 x.bits] 26)
  have h0 := h.up hA
  have hg0 : g ≤ w.heap.size := Nat.le_of_lt h.lt
  have hne : w.heap.size ≠ g := by have := h.lt; omega
  have H1 := Lib.hid (fun w1 (h1 : Wr w1 g l) => waddr_any g l x.a w1 (by omega) h1 ht.1)
  have HY := Lib.hid (show (P.adX x.a).length ≤ 17 from by unfold P.adX P.adB; split <;> (try split) <;> simp [P.be_length])
  have Hre := Lib.hid (show P.pxX x = P.adX x.a ++ [P.byI x.bits] from rfl)
  generalize P.adX x.a = Y at *
  generalize P.pxX x = R at *
  have H2 := Lib.hid (fun w2 (h2 : Wr w2 g (l ++ Y)) => wbyte_any g (l ++ Y) x.bits w2 (by have := HY.out; rw [List.length_append]; omega) h2)
  go_enter Tryd.func32, Tryd.ntmps32
  go_wp2_with (first
    | (go_at_call 33; (with_reducible refine (H1.out _ h0).mono ?_); rintro e w2 ⟨rfl, hw2, hb2, hk2⟩; have hbx2 := hbx0.keptW hk2 (by decide) hne; have q0 := hbx2.cell 0; have q1 := hbx2.cell 1; have q2 := hbx2.cell 2; have q3 := hbx2.cell 3; simp only [List.getElem?_toArray, List.getElem?_cons_zero, List.getElem?_cons_succ] at q0 q1 q2 q3)
    | (go_at_call 36; (with_reducible refine (H2.out _ hw2).mono ?_); rintro e w3 ⟨rfl, hw3, hb3, hk3⟩))
  go_end0
  exact ⟨rfl, by rw [Hre.out, ← List.append_assoc]; exact hw3, ((hA.mono hg0).trans hb2).trans hb3, ((KeptW.of hA).trans hk2).trans hk3⟩
set_option maxRecDepth 100000 in
set_option maxHeartbeats 4000000 in
theorem wlease_any (g : Nat) (l : List UInt8) (x : List UInt8 × Nat) (w : World) (hl : l.length ≤ 800000) (h : Wr w g l) (hs : x.1.length ≤ 20000) (ht : x.2 < 18446744073709551616) :
    Calls Tryd.prog 63 #[.pointer (some ⟨g, 0, none⟩), .agg #[S x.1, V64 x.2]] w fun e w' => e = .returned (.tuple #[]) ∧ Wr w' g (l ++ (P.txB x.1 ++ P.row x.2)) ∧ Below g w w' ∧ KeptW g w w' := by
  have hbx0 := Bx.fresh w 31 #[S x.1, V64 x.2]
  have hA := (Below.refl w.heap.size w).alloc (Nat.le_refl _) (.cells #[S x.1, V64 x.2] 31)
  have h0 := h.up hA
  have hg0 : g ≤ w.heap.size := Nat.le_of_lt h.lt
  have hne : w.heap.size ≠ g := by have := h.lt; omega
  have H1 := Lib.hid (fun w1 (h1 : Wr w1 g l) => wtext_any g l x.1 w1 (by omega) h1 hs)
  have HY := Lib.hid (show (P.txB x.1).length ≤ 20009 from by unfold P.txB; rw [List.length_append]; have := P.row_len9 x.1.length; omega)
  generalize P.txB x.1 = Y at *
  have H2 := Lib.hid (fun w2 (h2 : Wr w2 g (l ++ Y)) => wnumber_any g (l ++ Y) x.2 w2 (by have := HY.out; rw [List.length_append]; omega) h2 ht)
  go_enter Tryd.func63, Tryd.ntmps63
  go_wp2_with (first
    | (go_at_call 34; (with_reducible refine (H1.out _ h0).mono ?_); rintro e w2 ⟨rfl, hw2, hb2, hk2⟩; have hbx2 := hbx0.keptW hk2 (by decide) hne; have q0 := hbx2.cell 0; have q1 := hbx2.cell 1; simp only [List.getElem?_toArray, List.getElem?_cons_zero, List.getElem?_cons_succ] at q0 q1)
    | (go_at_call 35; (with_reducible refine (H2.out _ hw2).mono ?_); rintro e w3 ⟨rfl, hw3, hb3, hk3⟩))
  go_end0
  exact ⟨rfl, by rw [← List.append_assoc]; exact hw3, ((hA.mono hg0).trans hb2).trans hb3, ((KeptW.of hA).trans hk2).trans hk3⟩
end Go.Proofs.YtcobfoiajdbahaaDoor
