/- The walk of block.Open. -/
import Derived.Test.YthaiekilifoegaaWAt
import Derived.Test.YthaiekilifoegaaWFin
namespace Go.Proofs.Ythaiekilifoegaa
open Go.RowKit
set_option linter.unusedVariables false
set_option linter.unusedSimpArgs false

theorem P.bytesB_eq (l : List P.En) (n : Nat) (h : l.length = n) : P.upTo l n ++ P.places (P.starts l n ++ [n]) = P.bytesB l := by
  subst h
  rw [P.places_snoc, ← List.append_assoc]
  rfl
/-- An entry of a block is read, and may be added. -/
theorem P.Opens.step {s : List UInt8} {l : List P.En} (h : P.Opens s l) (i : Nat) (hi : i < l.length) :
    P.eOk ((s.take (s.length - 4 * ((l.length + 3) / 4 + 1))).drop (P.upTo l i).length) (P.lastK (l.take i)).length = true ∧
    P.eKey ((s.take (s.length - 4 * ((l.length + 3) / 4 + 1))).drop (P.upTo l i).length) (P.lastK (l.take i)) = P.keyAt l i ∧
    P.eVal ((s.take (s.length - 4 * ((l.length + 3) / 4 + 1))).drop (P.upTo l i).length) = P.valAt l i ∧
    (P.upTo l i).length + P.eSize ((s.take (s.length - 4 * ((l.length + 3) / 4 + 1))).drop (P.upTo l i).length) = (P.upTo l (i + 1)).length := by
  obtain ⟨x, hx⟩ := h.dropE i hi
  have hl : (l.take i).length = i := by rw [List.length_take]; omega
  obtain ⟨r1, r2, r3, r4⟩ := h.1.read i hi (P.lastK (l.take i)) (fun h4 => by unfold P.lastK; rw [hl, P.keyAt_take _ _ _ (by omega)]) x
  rw [hx]
  exact ⟨r1, r2, r3, by rw [r4, P.upTo_succ, List.length_append]⟩
theorem P.lastK_len {l : List P.En} (h : P.Good l) : (P.lastK l).length ≤ 1024 := (h.lens _).1
theorem P.lastK_at (l : List P.En) (i : Nat) (h : i ≤ l.length) (h0 : i = l.length) : P.lastK l = P.keyAt l (i - 1) := by subst h0; rfl

theorem infoI64 : (Try.prog.info? 3).map (fun i => (i.zero, i.size, i.bytes)) = some (some (.int .i64 0), 1, 8) := by kernel_rfl
theorem wpList_pushInt {ops : Array Oper} {rest : List Oper} {o : Oper} {a : Act} {w : World} {Q : Exit → Act → World → Prop} (hgd : o.guard = none) (s x : Operand)
    (ho : o.op = .call { callee := .builtin .append, args := #[s, x], argTypes := #[63, 63] }) (B : Nat) (v : Value) (l : List Nat) (c : Nat) (hs : a.eval s = v) (hown : OwnInts w B v l) (hl : l.length < 1000000)
    (g : Nat) (A : Array Value) (f : Nat × Nat) (hg : w.heap[g]? = some (.cells A 3 f)) (hA : A = (intCells c).toArray) (hx : a.eval x = .slice (some ⟨g, 0, none⟩) 1 1) (hB : B ≤ w.heap.size)
    (h : ∀ v' w', OwnInts w' B v' (l ++ [c]) → w.grownBy w' v.ownBlock → wpList Try.prog ops Q rest (a.put o.dst v') w') :
    wpList Try.prog ops Q (o :: rest) a w := by
  obtain ⟨i, hq, h1, h2, h3⟩ := info_three infoI64
  exact wpList_plain hgd fun _ hK => wp_pushG s x 63 ho i _ 8 Try.underlying63 hq h1 h2 h3 rfl (by decide) intCells_len intCells_one c hs hown hl (by decide) g A f hg hA hx hB fun v' w' h1 h2 => hK _ _ (h v' w' h1 h2)
/-- Where another row grows, boxes and rows of other types stand. -/
theorem Bx.grownR {α : Type} {e : TypeId} {k : Nat} {cs : α → List Value} {w w' : World} {g B : Nat} {t : TypeId} {c : Array Value} {v : Value} {l : List α} (h : Bx w g t c) (ho : OwnR e k cs w B v l) (hg : w.grownBy w' v.ownBlock) (ht : t ≠ e) : Bx w' g t c :=
  h.butS (ButS.grown (p := fun b => v.ownBlock = some b) hg (fun i hi => hi.symm)) (fun e => by
    obtain ⟨_, _, cur, hx⟩ := ho.lt e
    exact bx_ne h hx ht rfl)
theorem Own.grownR {α : Type} {e : TypeId} {k : Nat} {cs : α → List Value} {w w' : World} {B B' : Nat} {u v : Value} {r : List UInt8} {l : List α} (h : Own w B' u r) (ho : OwnR e k cs w B v l) (hg : w.grownBy w' v.ownBlock) (ht : 5 ≠ e) : Own w' B' u r :=
  h.butS (ButS.grown (p := fun b => v.ownBlock = some b) hg (fun i hi => hi.symm)) (fun q hq hh => by
    obtain ⟨_, _, cur, hx⟩ := ho.lt hh
    obtain ⟨_, _, cur', hx'⟩ := h.lt hq
    exact bx_ne hx' hx ht rfl)
theorem OwnR.grownR {α β : Type} {e e' : TypeId} {k k' : Nat} {cs : α → List Value} {cs' : β → List Value} {w w' : World} {B B' : Nat} {u v : Value} {r : List β} {l : List α} (h : OwnR e' k' cs' w B' u r) (ho : OwnR e k cs w B v l) (hg : w.grownBy w' v.ownBlock) (ht : e' ≠ e) : OwnR e' k' cs' w' B' u r :=
  h.butS (ButS.grown (p := fun b => v.ownBlock = some b) hg (fun i hi => hi.symm)) (fun q hq hh => by
    obtain ⟨_, _, cur, hx⟩ := ho.lt hh
    obtain ⟨_, _, cur', hx'⟩ := h.lt hq
    exact bx_ne hx' hx ht rfl)
theorem KeyV.grownR {α : Type} {e : TypeId} {k : Nat} {cs : α → List Value} {w w' : World} {B : Nat} {u v : Value} {r : List UInt8} {l : List α} (h : KeyV w u r) (ho : OwnR e k cs w B v l) (hg : w.grownBy w' v.ownBlock) (ht : e ≠ 5) : KeyV w' u r :=
  h.butS (ButS.grown (p := fun b => v.ownBlock = some b) hg (fun i hi => hi.symm)) (fun q hq hh => by
    obtain ⟨_, _, cur, hx⟩ := ho.lt hh
    exact h.ne hx ht hq)
theorem BldR.grownR {α : Type} {e : TypeId} {k : Nat} {cs : α → List Value} {w w' : World} {B B' g n : Nat} {vb vs v : Value} {last bs : List UInt8} {ns : List Nat} {l : List α} (h : BldR w B g vb vs n last bs ns) (ho : OwnR e k cs w B' v l) (hg : w.grownBy w' v.ownBlock) (h1 : 26 ≠ e) (h2 : 5 ≠ e) (h3 : 55 ≠ e) : BldR w' B g vb vs n last bs ns :=
  ⟨h.hg, h.box.grownR ho hg h1, h.own.grownR ho hg h2, h.nums.grownR ho hg h3⟩
/-- The blocks of a builder are none of another type. -/
theorem BldR.other {w : World} {B g n : Nat} {vb vs : Value} {last bs : List UInt8} {ns : List Nat} (h : BldR w B g vb vs n last bs ns) {b : Nat} {t : TypeId} {c : Array Value} (hx : Bx w b t c) (h1 : t ≠ 26) (h2 : t ≠ 5) (h3 : t ≠ 55) : ¬ Blks g vb vs b := by
  rintro (rfl | hh | hh)
  · exact bx_ne hx h.box h1 rfl
  · obtain ⟨_, _, cur, hy⟩ := h.own.lt hh
    exact bx_ne hx hy h2 rfl
  · obtain ⟨_, _, cur, hy⟩ := h.nums.lt hh
    exact bx_ne hx hy h3 rfl
theorem BldR.otherR {α : Type} {e : TypeId} {k : Nat} {cs : α → List Value} {w : World} {B B' g n : Nat} {vb vs v : Value} {last bs : List UInt8} {ns : List Nat} {l : List α} (h : BldR w B g vb vs n last bs ns) (ho : OwnR e k cs w B' v l) (h1 : e ≠ 26) (h2 : e ≠ 5) (h3 : e ≠ 55) : ∀ b, v.ownBlock = some b → ¬ Blks g vb vs b := fun b hb => by
  obtain ⟨_, _, cur, hx⟩ := ho.lt hb
  exact h.other hx h1 h2 h3
theorem BldR.otherK {w : World} {B g n : Nat} {vb vs v : Value} {last bs k : List UInt8} {ns : List Nat} (h : BldR w B g vb vs n last bs ns) (ho : KeyV w v k) (hsep : ∀ b, v.ownBlock = some b → vb.ownBlock ≠ some b) : ∀ b, v.ownBlock = some b → ¬ Blks g vb vs b := fun b hb => by
  rintro (rfl | hh | hh)
  · exact ho.ne h.box (by decide) hb
  · exact hsep b hb hh
  · obtain ⟨_, _, cur, hy⟩ := h.nums.lt hh
    exact ho.ne hy (by decide) hb

theorem BldR.butS {p : Nat → Prop} {w w' : World} {B g n : Nat} {vb vs : Value} {last bs : List UInt8} {ns : List Nat} (h : BldR w B g vb vs n last bs ns) (hb : ButS p w w') (hn : ∀ b, Blks g vb vs b → ¬ p b) : BldR w' B g vb vs n last bs ns :=
  ⟨h.hg, h.box.butS hb (hn g (.inl rfl)), h.own.butS hb (fun q hq => hn q (.inr (.inl hq))), h.nums.butS hb (fun q hq => hn q (.inr (.inr hq)))⟩
section
variable {s es : List UInt8} {c i n : Nat} {li : List P.En} {ps : List Nat}
theorem P.upTo_snoc' {e : P.En} (h : li.length = i) : P.upTo (li ++ [e]) (i + 1) = P.upTo li i ++ P.entB (if i % 4 = 0 then 0 else P.lcp (P.lastK li) e.k) e.k e.v := by subst h; exact P.upTo_snoc li e
theorem P.starts_snoc' {e : P.En} (h : li.length = i) : P.starts (li ++ [e]) (i + 1) = P.starts li i ++ (if i % 4 = 0 then [(P.upTo li i).length] else []) := by subst h; exact P.starts_snoc li e
theorem P.good_next {k v : List UInt8} (hg : P.Good li) (h : li.length = i) (hE : P.addE i (P.lastK li) k v = 0) : P.Good (li ++ [⟨k, v⟩]) := hg.snoc (by subst h; exact hE)
theorem P.open_no (hS : ∀ l, P.Opens s l → ∀ i, i < c → P.eOk (es.drop (P.upTo l i).length) (P.lastK (l.take i)).length = true ∧ P.eKey (es.drop (P.upTo l i).length) (P.lastK (l.take i)) = P.keyAt l i ∧ P.eVal (es.drop (P.upTo l i).length) = P.valAt l i ∧ (P.upTo l i).length + P.eSize (es.drop (P.upTo l i).length) = (P.upTo l (i + 1)).length) (hC : ∀ l, P.Opens s l → li = l.take i ∧ n = (P.upTo l i).length ∧ ps = P.starts l i) (hi : i < c) (h : P.eOk (es.drop n) (P.lastK li).length = false) : ∀ l, ¬ P.Opens s l := fun l ho => by
  obtain ⟨rfl, rfl, _⟩ := hC l ho
  have := (hS l ho i hi).1
  rw [h] at this
  cases this
theorem P.open_no2 (hS : ∀ l, P.Opens s l → ∀ i, i < c → P.eOk (es.drop (P.upTo l i).length) (P.lastK (l.take i)).length = true ∧ P.eKey (es.drop (P.upTo l i).length) (P.lastK (l.take i)) = P.keyAt l i ∧ P.eVal (es.drop (P.upTo l i).length) = P.valAt l i ∧ (P.upTo l i).length + P.eSize (es.drop (P.upTo l i).length) = (P.upTo l (i + 1)).length) (hL : ∀ l, P.Opens s l → l.length = c) (hC : ∀ l, P.Opens s l → li = l.take i ∧ n = (P.upTo l i).length ∧ ps = P.starts l i) (hi : i < c) (h : P.addE i (P.lastK li) (P.eKey (es.drop n) (P.lastK li)) (P.eVal (es.drop n)) ≠ 0) : ∀ l, ¬ P.Opens s l := fun l ho => by
  obtain ⟨rfl, rfl, _⟩ := hC l ho
  obtain ⟨_, h2, h3, _⟩ := hS l ho i hi
  rw [h2, h3] at h
  have := ho.1.at i (by rw [hL l ho]; exact hi)
  rw [show (l.take i).length = i by rw [List.length_take, hL l ho]; omega] at this
  exact h this
theorem P.open_yes (hS : ∀ l, P.Opens s l → ∀ i, i < c → P.eOk (es.drop (P.upTo l i).length) (P.lastK (l.take i)).length = true ∧ P.eKey (es.drop (P.upTo l i).length) (P.lastK (l.take i)) = P.keyAt l i ∧ P.eVal (es.drop (P.upTo l i).length) = P.valAt l i ∧ (P.upTo l i).length + P.eSize (es.drop (P.upTo l i).length) = (P.upTo l (i + 1)).length) (hL : ∀ l, P.Opens s l → l.length = c) (hC : ∀ l, P.Opens s l → li = l.take i ∧ n = (P.upTo l i).length ∧ ps = P.starts l i) (hi : i < c) : ∀ l, P.Opens s l → li ++ [⟨P.eKey (es.drop n) (P.lastK li), P.eVal (es.drop n)⟩] = l.take (i + 1) ∧ n + P.eSize (es.drop n) = (P.upTo l (i + 1)).length ∧ (ps ++ if i % 4 = 0 then [n] else []) = P.starts l (i + 1) := fun l ho => by
  obtain ⟨rfl, rfl, rfl⟩ := hC l ho
  obtain ⟨_, h2, h3, h4⟩ := hS l ho i hi
  rw [h2, h3, h4]
  exact ⟨(P.take_snoc l i (by rw [hL l ho]; exact hi)).symm, rfl, (P.starts_succ l i).symm⟩
end
/-- What the loop of Open keeps. -/
def OpenI (s : List UInt8) (c : Nat) (es : List UInt8) (gx i : Nat) (kv vv av : Value) (wr : World) : Prop :=
  ∃ (li : List P.En) (ps : List Nat) (n : Nat) (vb vs vx : Value) (val : List UInt8), li.length = i ∧ P.Good li ∧ vv = S val ∧ av = .int .i64 n ∧ n ≤ es.length ∧ KeyV wr kv (P.lastK li) ∧
    BldR wr (gx + 1) (gx + 1) vb vs i (P.lastK li) (P.upTo li i) (P.starts li i) ∧ Bx wr gx 65 #[S es, vx, .int .i64 c] ∧ OwnInts wr (gx + 1) vx ps ∧ ps.length ≤ i ∧ (∀ b, kv.ownBlock = some b → vb.ownBlock ≠ some b) ∧
    ∀ l, P.Opens s l → li = l.take i ∧ n = (P.upTo l i).length ∧ ps = P.starts l i
/-- What Open gives back. -/
def OpenP (s : List UInt8) (w : World) (e : Ending) (w' : World) : Prop :=
  Below w.heap.size w w' ∧ ((∃ l g, P.Opens s l ∧ e = .returned (.tuple #[.pointer (some ⟨g, 0, none⟩), .int .i64 0]) ∧ BlkAt w' g l) ∨ ((∀ l, ¬ P.Opens s l) ∧ e = .returned (.tuple #[.pointer none, .int .i64 8])))

attribute [local go_sem] str_tail str_take

set_option maxRecDepth 100000 in
set_option maxHeartbeats 4000000 in
theorem open_none (s : List UInt8) (w : World) (hs : s.length ≤ 100000) (hno : P.bigOk (s.drop (s.length - 4)) 4 = false ∨ s.length / 4 < (P.bigNum (s.drop (s.length - 4)) 4 + 3) / 4 + 1) :
    Calls Try.prog 13 #[S s] w (OpenP s w) := by
  have hopens : ∀ l, ¬ P.Opens s l := fun l h => by
    obtain ⟨c1, c2⟩ := h.count (by omega)
    have hb := P.bytesB_length l
    rw [h.2] at hb
    rw [c1, c2] at hno
    rcases hno with hno | hno
    · cases hno
    · omega
  have HO := Lib.hid hopens
  clear hopens
  have HB := Lib.hid (fun wx => big_any (s.drop (s.length - 4)) 4 wx (by simp; omega) (by omega) (by omega))
  have hmx : max ((s.length : Int) - 4) 0 = ((s.length - 4 : Nat) : Int) := by omega
  have hsl : ((s.length - 4 : Nat) : Int) ≤ (s.length : Int) := by omega
  have hcn : P.bigOk (s.drop (s.length - 4)) 4 = true → 4 ≤ s.length := fun h => by
    unfold P.bigOk at h
    have := of_decide_eq_true h
    simp at this
    omega
  have hc64 : P.bigNum (s.drop (s.length - 4)) 4 < 4294967296 := by
    unfold P.bigNum
    split
    · have := P.val_lt ((s.drop (s.length - 4)).take (4 : Int).toNat)
      have h2 : ((s.drop (s.length - 4)).take (4 : Int).toNat).length ≤ 4 := by simp; omega
      exact Nat.lt_of_lt_of_le this (Nat.le_trans (Nat.pow_le_pow_right (by omega) h2) (by decide))
    · omega
  generalize P.bigNum (s.drop (s.length - 4)) 4 = c at *
  cases hok : P.bigOk (s.drop (s.length - 4)) 4 with
  | false =>
    rw [hok] at HB
    clear hcn hno hok
    generalize s.length - 4 = e4 at *
    go_enter Try.func13, Try.ntmps13
    go_wp2_with (go_at_call 28; (with_reducible refine (HB.out _).mono ?_); rintro e w1 ⟨rfl, hb1⟩)
    exact bodyPost_ret (v := .tuple #[.pointer none, .int .i64 8]) (by simp [results, Try.results13, go_sem]) rfl ⟨hb1, .inr ⟨HO.out, rfl⟩⟩
  | true =>
    rw [hok] at HB
    have hl4 := hcn hok
    have hno' : s.length / 4 < (c + 3) / 4 + 1 := hno.resolve_left (by rw [hok]; intro h; cases h)
    have hq1 : (s.length : Int) / 4 - 1 = ((s.length / 4 - 1 : Nat) : Int) := by omega
    have hq2 : ((c : Int) + 4 - 1) / 4 = (((c + 3) / 4 : Nat) : Int) := by omega
    have hw1 : IntKind.u64.wrap ((s.length / 4 - 1 : Nat) : Int) = ((s.length / 4 - 1 : Nat) : Int) := by rw [IntKind.wrap_u64]; omega
    have hgt : s.length / 4 - 1 < (c + 3) / 4 := by omega
    clear hcn hno hno' hok
    generalize (c + 3) / 4 = st at *
    generalize s.length / 4 - 1 = m1 at *
    generalize s.length - 4 = e4 at *
    go_enter Try.func13, Try.ntmps13
    go_wp2_with (go_at_call 28; (with_reducible refine (HB.out _).mono ?_); rintro e w1 ⟨rfl, hb1⟩)
    exact bodyPost_ret (v := .tuple #[.pointer none, .int .i64 8]) (by simp [results, Try.results13, go_sem]) rfl ⟨hb1, .inr ⟨HO.out, rfl⟩⟩

set_option maxRecDepth 100000 in
set_option maxHeartbeats 8000000 in
theorem open_some (s : List UInt8) (w : World) (hs : s.length ≤ 100000) (c : Nat) (hok : P.bigOk (s.drop (s.length - 4)) 4 = true) (hcc : P.bigNum (s.drop (s.length - 4)) 4 = c) (hst : (c + 3) / 4 + 1 ≤ s.length / 4) :
    Calls Try.prog 13 #[S s] w (OpenP s w) := by
  have HLen := Lib.hid (show ∀ l, P.Opens s l → l.length = c from fun l h => by rw [← hcc]; exact (h.count (by omega)).2.symm)
  have HB := Lib.hid (fun wx => big_any (s.drop (s.length - 4)) 4 wx (by simp; omega) (by omega) (by omega))
  rw [hok, hcc] at HB
  have hmx : max ((s.length : Int) - 4) 0 = ((s.length - 4 : Nat) : Int) := by omega
  have hsl : ((s.length - 4 : Nat) : Int) ≤ (s.length : Int) := by omega
  have hcl : c ≤ 100000 := by omega
  have hq1 : (s.length : Int) / 4 - 1 = ((s.length / 4 - 1 : Nat) : Int) := by omega
  have hq2 : ((c : Int) + 4 - 1) / 4 = (((c + 3) / 4 : Nat) : Int) := by omega
  have hw1 : IntKind.u64.wrap ((s.length / 4 - 1 : Nat) : Int) = ((s.length / 4 - 1 : Nat) : Int) := by rw [IntKind.wrap_u64]; omega
  have hgt : ¬ (s.length / 4 - 1 < (c + 3) / 4) := by omega
  obtain ⟨en, hen⟩ : ∃ en, en = s.length - 4 * ((c + 3) / 4 + 1) := ⟨_, rfl⟩
  have hen1 : en ≤ s.length := by omega
  have hie : (s.length : Int) - 4 * ((((c + 3) / 4 : Nat) : Int) + 1) = (en : Int) := by omega
  obtain ⟨es, hes⟩ : ∃ es, es = s.take en := ⟨_, rfl⟩
  have hesl : es.length = en := by rw [hes, List.length_take]; omega
  have HStep := Lib.hid (show ∀ l, P.Opens s l → ∀ i, i < c → P.eOk (es.drop (P.upTo l i).length) (P.lastK (l.take i)).length = true ∧ P.eKey (es.drop (P.upTo l i).length) (P.lastK (l.take i)) = P.keyAt l i ∧ P.eVal (es.drop (P.upTo l i).length) = P.valAt l i ∧ (P.upTo l i).length + P.eSize (es.drop (P.upTo l i).length) = (P.upTo l (i + 1)).length from fun l h i hi => by
    have hl := HLen.out l h
    have := h.step i (by omega)
    rw [hl, ← hen, ← hes] at this
    exact this)
  have HEs := Lib.hid (show ∀ l, P.Opens s l → es = P.upTo l l.length from fun l h => by
    have := h.ents
    rw [HLen.out l h, ← hen, ← hes] at this
    rw [this, HLen.out l h])
  clear hok hcc hen
  have Hes := Lib.hid hes
  have hwst : IntKind.i64.wrap ((((c + 3) / 4 : Nat) : Int) + 1) = (((c + 3) / 4 : Nat) : Int) + 1 := IntWalk.i64_in _ (by omega)
  clear hes hst
  generalize (c + 3) / 4 = st at *
  generalize s.length / 4 - 1 = m1 at *
  generalize s.length - 4 = e4 at *
  go_enter Try.func13, Try.ntmps13
  go_wp2_with (go_at_call 28; (with_reducible refine (HB.out _).mono ?_); rintro e w1 ⟨rfl, hb1⟩; have hcw1 := hb1)
  -- LOOP
  rw [← Hes.out]
  have hx0 : Bx ((w1.alloc (.cells #[S es, .slice none 0 0, .int .i64 c] 65)).alloc (.cells #[.slice none 0 0, .slice none 0 0, .int .i64 0, S []] 26)) w1.heap.size 65 #[S es, .slice none 0 0, .int .i64 c] := (Bx.fresh w1 _ _).up ((Below.refl _ _).alloc (Nat.le_refl _) _)
  have hy0 : BldR ((w1.alloc (.cells #[S es, .slice none 0 0, .int .i64 c] 65)).alloc (.cells #[.slice none 0 0, .slice none 0 0, .int .i64 0, S []] 26)) (w1.heap.size + 1) (w1.heap.size + 1) (.slice none 0 0) (.slice none 0 0) 0 [] [] [] := BldR.empty _ _ _ (Nat.le_refl _) (by have := Bx.fresh (w1.alloc (.cells #[S es, .slice none 0 0, .int .i64 c] 65)) 26 #[.slice none 0 0, .slice none 0 0, .int .i64 0, S []]; simpa using this)
  have hW0 : Below w.heap.size w ((w1.alloc (.cells #[S es, .slice none 0 0, .int .i64 c] 65)).alloc (.cells #[.slice none 0 0, .slice none 0 0, .int .i64 0, S []] 26)) := (hb1.alloc hb1.size _).alloc (Nat.le_trans hb1.size (by simp)) _
  have hz0 : w1.heap.size + 1 ≤ ((w1.alloc (.cells #[S es, .slice none 0 0, .int .i64 c] 65)).alloc (.cells #[.slice none 0 0, .slice none 0 0, .int .i64 0, S []] 26)).heap.size := by simp
  have hgxw := hb1.size
  generalize (w1.alloc (.cells #[S es, .slice none 0 0, .int .i64 c] 65)).alloc (.cells #[.slice none 0 0, .slice none 0 0, .int .i64 0, S []] 26) = w0 at *
  generalize w1.heap.size = gx at *
  clear hq2 hie hwst hq1 hw1 hgt hmx hsl HB hb1 hcw1
  go_loopw [59, 10, 11, 12] (fun a kv vv av wr => ∃ i : Nat, a = .int .i64 i ∧ i ≤ c ∧ OpenI s c es gx i kv vv av wr ∧ gx + 1 ≤ wr.heap.size ∧ Below w.heap.size w wr) (fun a _ _ _ _ => c - (intOf a).toNat)
  case atStart => exact ⟨0, rfl, by omega, ⟨[], [], 0, _, _, _, [], rfl, P.good_nil, rfl, rfl, by omega, keyV_nil _, hy0, hx0, ownR_nil _ _, by simp, (fun b h => by cases h), fun l h => ⟨rfl, rfl, rfl⟩⟩, hz0, hW0⟩
  case round =>
    clear hx0 hy0 hW0 hz0
    obtain ⟨i, rfl, hic, ⟨li, ps, n, vb, vs, vx, val, hli, hgd, rfl, rfl, hn, hK, hB, hx, hI, hpl, hsep, hC⟩, hszr, hb⟩ := hrel
    have HC := Lib.hid hC
    clear hC
    obtain ⟨ax, dx, hvx, _, _⟩ := hI.is intCells_len
    subst hvx
    obtain ⟨x0, x1, x2, xf0, xf1, xf2⟩ := hx.three
    have hll := P.lastK_len hgd
    have hbl : (P.upTo li i).length ≤ 1000000000 := by have := P.upTo_most hgd i; omega
    have hpsl : ps.length < 1000000 := by omega
    by_cases hlt : i < c
    · obtain ⟨t, ht⟩ : ∃ t, t = es.drop n := ⟨_, rfl⟩
      by_cases hz4 : i % 4 = 0
      · skip
        have hm4 : ((i : Int) % 4 == 0) = true := by rw [beq_iff_eq]; omega
        cases hok : P.eOk t (P.lastK li).length with
        | false =>
          have HNo := Lib.hid (P.open_no HStep.out HC.out hlt (by rw [← ht]; exact hok))
          have HN := Lib.hid (fun wx v (hv : KeyV wx v (P.lastK li)) => (next_any es n v (P.lastK li) wx (by omega) hn hv (by omega)).mono (fun e w' h => show e = .returned (.tuple #[.slice none 0 0, S [], .int .i64 (-1)]) ∧ Below wx.heap.size wx w' from ⟨h.2.2 (by rw [← ht]; exact hok), h.1⟩))
          clear hok
          go_wp2_with (first | (at_builtin; go_loud ((refine wpList_pushInt (by rfl) _ _ (by rfl) (gx + 1) _ ps n (by rfl) (OwnR.alloc hI _) hpsl wr.heap.size _ (0, 0) (heap_alloc_new wr _) (by rfl) (by rfl) (Nat.le_trans hszr (by simp)) ?_); intro vx2 w2 hI2 hg2; obtain ⟨a5, d5, hv5, _, _⟩ := hI2.is intCells_len; (rw [List.length_append, List.length_singleton] at hv5); (subst hv5); have hal := (Below.refl wr.heap.size wr).alloc (Nat.le_refl _) (.cells #[.int .i64 (n : Int)] 3); have hIa := OwnR.alloc hI (.cells #[.int .i64 (n : Int)] 3); have hx2 := (hx.up hal).grownR hIa hg2 (by decide); have hK2 := (hK.up hal).grownR hIa hg2 (by decide); have hB2 := (hB.up hal).grownR hIa hg2 (by decide) (by decide) (by decide); obtain ⟨z0, z1, z2, zf0, zf1, zf2⟩ := hx2.three; have hS3 := ButS.set (p := fun b => b = gx) rfl w2 1 (.slice a5 (ps.length + 1) d5); have hx3 := hx2.set 1 (.slice a5 (ps.length + 1) d5); have hK3 := hK2.butS hS3 (fun b hb e => hK2.ne hx2 (by decide) (by rw [hb, e])); have hB3 := hB2.butS hS3 (fun b hb e => hB2.other hx2 (by decide) (by decide) (by decide) (e ▸ hb)); have hI3 := hI2.butS hS3 (fun b hb e => own_old hI2 hx2 (by decide) (by rw [hb, e])); have hb3 := ((hb.trans (hal.mono hb.size)).grown hg2 (B := w.heap.size) (Nat.le_trans hb.size (by simp)) (fun q hq => Nat.le_trans hgxw (Nat.le_of_lt (hIa.lt hq).1))).setCell (p := ⟨gx, 1, none⟩) hgxw (.slice a5 (ps.length + 1) d5); have hsz3 : wr.heap.size ≤ (w2.setCell ⟨gx, 1, none⟩ (.slice a5 (ps.length + 1) d5)).heap.size := Nat.le_trans hal.size (Nat.le_trans hg2.size hS3.size); obtain ⟨y0, y1, y2, _, _, _⟩ := hx3.three)) | (go_at_call 29; (with_reducible refine (HN.out _ _ hK3).mono ?_); rintro e w4 ⟨rfl, hb4⟩))
          exact bodyPost_ret (v := .tuple #[.pointer none, .int .i64 8]) (by simp [results, Try.results13, go_sem]) rfl ⟨hb3.trans (hb4.mono hb3.size), .inr ⟨HNo.out, rfl⟩⟩
        | true =>
          have hsz := P.eSize_le hok
          have HN := Lib.hid (fun wx v (hv : KeyV wx v (P.lastK li)) => (next_any es n v (P.lastK li) wx (by omega) hn hv (by omega)).mono (fun e w' h => show (∃ v', e = .returned (.tuple #[v', S (P.eVal t), .int .i64 ((n + P.eSize t : Nat) : Int)]) ∧ KeyV w' v' (P.eKey t (P.lastK li)) ∧ (v'.ownBlock = v.ownBlock ∨ ∀ g, v'.ownBlock = some g → wx.heap.size ≤ g)) ∧ Below wx.heap.size wx w' from ⟨by rw [ht]; exact h.2.1 (by rw [← ht]; exact hok), h.1⟩))
          have hkl : (P.eKey t (P.lastK li)).length ≤ 2048 := by unfold P.eKey; rw [List.length_append, List.length_take]; omega
          have hvl : (P.eVal t).length ≤ 1024 := hsz.2.2.2.2.2.2
          have HNo := Lib.hid (show P.addE i (P.lastK li) (P.eKey t (P.lastK li)) (P.eVal t) ≠ 0 → ∀ l, ¬ P.Opens s l from fun h => P.open_no2 HStep.out HLen.out HC.out hlt (by rw [← ht]; exact h))
          have HY := Lib.hid (show ∀ l, P.Opens s l → li ++ [⟨P.eKey t (P.lastK li), P.eVal t⟩] = l.take (i + 1) ∧ n + P.eSize t = (P.upTo l (i + 1)).length ∧ (ps ++ if i % 4 = 0 then [n] else []) = P.starts l (i + 1) from fun l h => by rw [ht]; exact P.open_yes HStep.out HLen.out HC.out hlt l h)
          have htl : t.length = es.length - n := by rw [ht]; simp
          have hn2 : n + P.eSize t ≤ es.length := by omega
          clear hok hsz ht htl
          generalize P.eSize t = sz at *
          generalize P.eVal t = val' at *
          generalize P.eKey t (P.lastK li) = key at *
          generalize hn' : n + sz = n' at *
          have Hn' := Lib.hid hn'
          clear hn'
          have HA := Lib.hid (fun (wx : World) (vb vs : Value) (q : BldR wx (gx + 1) (gx + 1) vb vs i (P.lastK li) (P.upTo li i) (P.starts li i)) => add_any q)
          have HA := Lib.hid (fun (wx : World) (vb vs : Value) (g : Nat) (q : BldR wx g g vb vs i (P.lastK li) (P.upTo li i) (P.starts li i)) (hz : g ≤ wx.heap.size) => add_any q key val' (by omega) (by omega) hll (by omega) hbl (by rw [P.starts_len]; omega) hz)
          have hlo : ¬ ((n' : Int) < 0) := by omega
          by_cases hE : P.addE i (P.lastK li) key val' = 0
          · have Hli := Lib.hid (P.good_next hgd hli hE)
            go_wp2_with (first | (at_builtin; go_loud ((refine wpList_pushInt (by rfl) _ _ (by rfl) (gx + 1) _ ps n (by rfl) (OwnR.alloc hI _) hpsl wr.heap.size _ (0, 0) (heap_alloc_new wr _) (by rfl) (by rfl) (Nat.le_trans hszr (by simp)) ?_); intro vx2 w2 hI2 hg2; obtain ⟨a5, d5, hv5, _, _⟩ := hI2.is intCells_len; (rw [List.length_append, List.length_singleton] at hv5); (subst hv5); have hal := (Below.refl wr.heap.size wr).alloc (Nat.le_refl _) (.cells #[.int .i64 (n : Int)] 3); have hIa := OwnR.alloc hI (.cells #[.int .i64 (n : Int)] 3); have hx2 := (hx.up hal).grownR hIa hg2 (by decide); have hK2 := (hK.up hal).grownR hIa hg2 (by decide); have hB2 := (hB.up hal).grownR hIa hg2 (by decide) (by decide) (by decide); obtain ⟨z0, z1, z2, zf0, zf1, zf2⟩ := hx2.three; have hS3 := ButS.set (p := fun b => b = gx) rfl w2 1 (.slice a5 (ps.length + 1) d5); have hx3 := hx2.set 1 (.slice a5 (ps.length + 1) d5); have hK3 := hK2.butS hS3 (fun b hb e => hK2.ne hx2 (by decide) (by rw [hb, e])); have hB3 := hB2.butS hS3 (fun b hb e => hB2.other hx2 (by decide) (by decide) (by decide) (e ▸ hb)); have hI3 := hI2.butS hS3 (fun b hb e => own_old hI2 hx2 (by decide) (by rw [hb, e])); have hb3 := ((hb.trans (hal.mono hb.size)).grown hg2 (B := w.heap.size) (Nat.le_trans hb.size (by simp)) (fun q hq => Nat.le_trans hgxw (Nat.le_of_lt (hIa.lt hq).1))).setCell (p := ⟨gx, 1, none⟩) hgxw (.slice a5 (ps.length + 1) d5); have hsz3 : wr.heap.size ≤ (w2.setCell ⟨gx, 1, none⟩ (.slice a5 (ps.length + 1) d5)).heap.size := Nat.le_trans hal.size (Nat.le_trans hg2.size hS3.size); obtain ⟨y0, y1, y2, _, _, _⟩ := hx3.three)) | (go_at_call 29; (with_reducible refine (HN.out _ _ hK3).mono ?_); rintro e w4 ⟨⟨kv4, rfl, hK4, hsn4⟩, hb4⟩; have hB4 := hB3.up hb4; have hsz4 : gx + 1 ≤ w4.heap.size := Nat.le_trans hszr (Nat.le_trans hsz3 hb4.size)))
            rw [hK4.string]
            go_wp2_with (go_at_call 11; (with_reducible refine (HA.out _ _ _ _ hB4 hsz4).mono ?_); rintro e w5 hP; obtain ⟨rfl, _, hP2⟩ := hP; rw [hE]; obtain ⟨vb5, vs5, hB5, hbt5, hsn5⟩ := hP2 hE)
            have hx4 := hx3.up hb4
            have hI4 := hI3.up hb4
            have hb4w := hb3.trans (hb4.mono hb3.size)
            have hsep4 : ∀ b, kv4.ownBlock = some b → vb.ownBlock ≠ some b := fun b h1 h2 => by
              rcases hsn4 with h | h
              · exact hsep b (h ▸ h1) h2
              · have := h b h1; have := (hB3.own.lt h2).2.1; omega
            have hsep5 : ∀ b, kv4.ownBlock = some b → vb5.ownBlock ≠ some b := fun b h1 h2 => by
              rcases hsn5 with h | h
              · exact hsep4 b h1 (h ▸ h2)
              · have := h b h2; have := hK4.lt h1; omega
            have hC5 : ∀ l, P.Opens s l → li ++ [⟨key, val'⟩] = l.take (i + 1) ∧ n' = (P.upTo l (i + 1)).length ∧ (ps ++ [n]) = P.starts l (i + 1) := fun l h => by
              have := HY.out l h
              rw [if_pos hz4] at this
              exact this
            go_roundw
            case rel => exact ⟨i + 1, by go_num, by omega, ⟨li ++ [⟨key, val'⟩], (ps ++ [n]), n', vb5, vs5, _, val', by rw [List.length_append, hli]; rfl, Hli.out, rfl, rfl, hn2, by rw [P.lastK_snoc]; exact hK4.butS hbt5 (hB4.otherK hK4 hsep4), by rw [P.lastK_snoc, P.upTo_snoc' hli, P.starts_snoc' hli]; exact hB5, hx4.butS hbt5 (hB4.other hx4 (by decide) (by decide) (by decide)), hI4.butS hbt5 (hB4.otherR hI4 (by decide) (by decide) (by decide)), by (try rw [List.length_append, List.length_singleton]); omega, hsep5, hC5⟩, Nat.le_trans hsz4 hbt5.size, hb4w.trans ((hB4.below hbt5 hsz4).mono (Nat.le_trans hgxw (Nat.le_succ _)))⟩
            case measure => simp [intOf]; omega
          · have HNo2 := Lib.hid (HNo.out hE)
            clear HNo
            have hEb : (((P.addE i (P.lastK li) key val' : Nat) : Int) == 0) = false := beq_eq_false_iff_ne.2 (by omega)
            have hEn : (((P.addE i (P.lastK li) key val' : Nat) : Int) != 0) = true := by rw [bne_iff_ne]; omega
            go_wp2_with (first | (at_builtin; go_loud ((refine wpList_pushInt (by rfl) _ _ (by rfl) (gx + 1) _ ps n (by rfl) (OwnR.alloc hI _) hpsl wr.heap.size _ (0, 0) (heap_alloc_new wr _) (by rfl) (by rfl) (Nat.le_trans hszr (by simp)) ?_); intro vx2 w2 hI2 hg2; obtain ⟨a5, d5, hv5, _, _⟩ := hI2.is intCells_len; (rw [List.length_append, List.length_singleton] at hv5); (subst hv5); have hal := (Below.refl wr.heap.size wr).alloc (Nat.le_refl _) (.cells #[.int .i64 (n : Int)] 3); have hIa := OwnR.alloc hI (.cells #[.int .i64 (n : Int)] 3); have hx2 := (hx.up hal).grownR hIa hg2 (by decide); have hK2 := (hK.up hal).grownR hIa hg2 (by decide); have hB2 := (hB.up hal).grownR hIa hg2 (by decide) (by decide) (by decide); obtain ⟨z0, z1, z2, zf0, zf1, zf2⟩ := hx2.three; have hS3 := ButS.set (p := fun b => b = gx) rfl w2 1 (.slice a5 (ps.length + 1) d5); have hx3 := hx2.set 1 (.slice a5 (ps.length + 1) d5); have hK3 := hK2.butS hS3 (fun b hb e => hK2.ne hx2 (by decide) (by rw [hb, e])); have hB3 := hB2.butS hS3 (fun b hb e => hB2.other hx2 (by decide) (by decide) (by decide) (e ▸ hb)); have hI3 := hI2.butS hS3 (fun b hb e => own_old hI2 hx2 (by decide) (by rw [hb, e])); have hb3 := ((hb.trans (hal.mono hb.size)).grown hg2 (B := w.heap.size) (Nat.le_trans hb.size (by simp)) (fun q hq => Nat.le_trans hgxw (Nat.le_of_lt (hIa.lt hq).1))).setCell (p := ⟨gx, 1, none⟩) hgxw (.slice a5 (ps.length + 1) d5); have hsz3 : wr.heap.size ≤ (w2.setCell ⟨gx, 1, none⟩ (.slice a5 (ps.length + 1) d5)).heap.size := Nat.le_trans hal.size (Nat.le_trans hg2.size hS3.size); obtain ⟨y0, y1, y2, _, _, _⟩ := hx3.three)) | (go_at_call 29; (with_reducible refine (HN.out _ _ hK3).mono ?_); rintro e w4 ⟨⟨kv4, rfl, hK4, hsn4⟩, hb4⟩; have hB4 := hB3.up hb4; have hsz4 : gx + 1 ≤ w4.heap.size := Nat.le_trans hszr (Nat.le_trans hsz3 hb4.size)))
            rw [hK4.string]
            go_wp2_with (go_at_call 11; (with_reducible refine (HA.out _ _ _ _ hB4 hsz4).mono ?_); rintro e w5 hP; obtain ⟨rfl, hP1, _⟩ := hP; have hb5 := hP1 hE)
            exact bodyPost_ret (v := .tuple #[.pointer none, .int .i64 8]) (by simp [results, Try.results13, go_sem]) rfl ⟨(hb3.trans (hb4.mono hb3.size)).trans (hb5.mono (Nat.le_trans hb3.size hb4.size)), .inr ⟨HNo2.out, rfl⟩⟩
      · skip
        have hm4 : ((i : Int) % 4 == 0) = false := by rw [beq_eq_false_iff_ne]; omega
        have hx3 := hx
        have hK3 := hK
        have hB3 := hB
        have hI3 := hI
        have hb3 := hb
        have hsz3 := Nat.le_refl wr.heap.size
        cases hok : P.eOk t (P.lastK li).length with
        | false =>
          have HNo := Lib.hid (P.open_no HStep.out HC.out hlt (by rw [← ht]; exact hok))
          have HN := Lib.hid (fun wx v (hv : KeyV wx v (P.lastK li)) => (next_any es n v (P.lastK li) wx (by omega) hn hv (by omega)).mono (fun e w' h => show e = .returned (.tuple #[.slice none 0 0, S [], .int .i64 (-1)]) ∧ Below wx.heap.size wx w' from ⟨h.2.2 (by rw [← ht]; exact hok), h.1⟩))
          clear hok
          go_wp2_with (go_at_call 29; (with_reducible refine (HN.out _ _ hK3).mono ?_); rintro e w4 ⟨rfl, hb4⟩)
          exact bodyPost_ret (v := .tuple #[.pointer none, .int .i64 8]) (by simp [results, Try.results13, go_sem]) rfl ⟨hb3.trans (hb4.mono hb3.size), .inr ⟨HNo.out, rfl⟩⟩
        | true =>
          have hsz := P.eSize_le hok
          have HN := Lib.hid (fun wx v (hv : KeyV wx v (P.lastK li)) => (next_any es n v (P.lastK li) wx (by omega) hn hv (by omega)).mono (fun e w' h => show (∃ v', e = .returned (.tuple #[v', S (P.eVal t), .int .i64 ((n + P.eSize t : Nat) : Int)]) ∧ KeyV w' v' (P.eKey t (P.lastK li)) ∧ (v'.ownBlock = v.ownBlock ∨ ∀ g, v'.ownBlock = some g → wx.heap.size ≤ g)) ∧ Below wx.heap.size wx w' from ⟨by rw [ht]; exact h.2.1 (by rw [← ht]; exact hok), h.1⟩))
          have hkl : (P.eKey t (P.lastK li)).length ≤ 2048 := by unfold P.eKey; rw [List.length_append, List.length_take]; omega
          have hvl : (P.eVal t).length ≤ 1024 := hsz.2.2.2.2.2.2
          have HNo := Lib.hid (show P.addE i (P.lastK li) (P.eKey t (P.lastK li)) (P.eVal t) ≠ 0 → ∀ l, ¬ P.Opens s l from fun h => P.open_no2 HStep.out HLen.out HC.out hlt (by rw [← ht]; exact h))
          have HY := Lib.hid (show ∀ l, P.Opens s l → li ++ [⟨P.eKey t (P.lastK li), P.eVal t⟩] = l.take (i + 1) ∧ n + P.eSize t = (P.upTo l (i + 1)).length ∧ (ps ++ if i % 4 = 0 then [n] else []) = P.starts l (i + 1) from fun l h => by rw [ht]; exact P.open_yes HStep.out HLen.out HC.out hlt l h)
          have htl : t.length = es.length - n := by rw [ht]; simp
          have hn2 : n + P.eSize t ≤ es.length := by omega
          clear hok hsz ht htl
          generalize P.eSize t = sz at *
          generalize P.eVal t = val' at *
          generalize P.eKey t (P.lastK li) = key at *
          generalize hn' : n + sz = n' at *
          have Hn' := Lib.hid hn'
          clear hn'
          have HA := Lib.hid (fun (wx : World) (vb vs : Value) (q : BldR wx (gx + 1) (gx + 1) vb vs i (P.lastK li) (P.upTo li i) (P.starts li i)) => add_any q)
          have HA := Lib.hid (fun (wx : World) (vb vs : Value) (g : Nat) (q : BldR wx g g vb vs i (P.lastK li) (P.upTo li i) (P.starts li i)) (hz : g ≤ wx.heap.size) => add_any q key val' (by omega) (by omega) hll (by omega) hbl (by rw [P.starts_len]; omega) hz)
          have hlo : ¬ ((n' : Int) < 0) := by omega
          by_cases hE : P.addE i (P.lastK li) key val' = 0
          · have Hli := Lib.hid (P.good_next hgd hli hE)
            go_wp2_with (go_at_call 29; (with_reducible refine (HN.out _ _ hK3).mono ?_); rintro e w4 ⟨⟨kv4, rfl, hK4, hsn4⟩, hb4⟩; have hB4 := hB3.up hb4; have hsz4 : gx + 1 ≤ w4.heap.size := Nat.le_trans hszr (Nat.le_trans hsz3 hb4.size))
            rw [hK4.string]
            go_wp2_with (go_at_call 11; (with_reducible refine (HA.out _ _ _ _ hB4 hsz4).mono ?_); rintro e w5 hP; obtain ⟨rfl, _, hP2⟩ := hP; rw [hE]; obtain ⟨vb5, vs5, hB5, hbt5, hsn5⟩ := hP2 hE)
            have hx4 := hx3.up hb4
            have hI4 := hI3.up hb4
            have hb4w := hb3.trans (hb4.mono hb3.size)
            have hsep4 : ∀ b, kv4.ownBlock = some b → vb.ownBlock ≠ some b := fun b h1 h2 => by
              rcases hsn4 with h | h
              · exact hsep b (h ▸ h1) h2
              · have := h b h1; have := (hB3.own.lt h2).2.1; omega
            have hsep5 : ∀ b, kv4.ownBlock = some b → vb5.ownBlock ≠ some b := fun b h1 h2 => by
              rcases hsn5 with h | h
              · exact hsep4 b h1 (h ▸ h2)
              · have := h b h2; have := hK4.lt h1; omega
            have hC5 : ∀ l, P.Opens s l → li ++ [⟨key, val'⟩] = l.take (i + 1) ∧ n' = (P.upTo l (i + 1)).length ∧ ps = P.starts l (i + 1) := fun l h => by
              have := HY.out l h
              rw [if_neg hz4, List.append_nil] at this
              exact this
            go_roundw
            case rel => exact ⟨i + 1, by go_num, by omega, ⟨li ++ [⟨key, val'⟩], ps, n', vb5, vs5, _, val', by rw [List.length_append, hli]; rfl, Hli.out, rfl, rfl, hn2, by rw [P.lastK_snoc]; exact hK4.butS hbt5 (hB4.otherK hK4 hsep4), by rw [P.lastK_snoc, P.upTo_snoc' hli, P.starts_snoc' hli]; exact hB5, hx4.butS hbt5 (hB4.other hx4 (by decide) (by decide) (by decide)), hI4.butS hbt5 (hB4.otherR hI4 (by decide) (by decide) (by decide)), by (try rw [List.length_append, List.length_singleton]); omega, hsep5, hC5⟩, Nat.le_trans hsz4 hbt5.size, hb4w.trans ((hB4.below hbt5 hsz4).mono (Nat.le_trans hgxw (Nat.le_succ _)))⟩
            case measure => simp [intOf]; omega
          · have HNo2 := Lib.hid (HNo.out hE)
            clear HNo
            have hEb : (((P.addE i (P.lastK li) key val' : Nat) : Int) == 0) = false := beq_eq_false_iff_ne.2 (by omega)
            have hEn : (((P.addE i (P.lastK li) key val' : Nat) : Int) != 0) = true := by rw [bne_iff_ne]; omega
            go_wp2_with (go_at_call 29; (with_reducible refine (HN.out _ _ hK3).mono ?_); rintro e w4 ⟨⟨kv4, rfl, hK4, hsn4⟩, hb4⟩; have hB4 := hB3.up hb4; have hsz4 : gx + 1 ≤ w4.heap.size := Nat.le_trans hszr (Nat.le_trans hsz3 hb4.size))
            rw [hK4.string]
            go_wp2_with (go_at_call 11; (with_reducible refine (HA.out _ _ _ _ hB4 hsz4).mono ?_); rintro e w5 hP; obtain ⟨rfl, hP1, _⟩ := hP; have hb5 := hP1 hE)
            exact bodyPost_ret (v := .tuple #[.pointer none, .int .i64 8]) (by simp [results, Try.results13, go_sem]) rfl ⟨(hb3.trans (hb4.mono hb3.size)).trans (hb5.mono (Nat.le_trans hb3.size hb4.size)), .inr ⟨HNo2.out, rfl⟩⟩
    · obtain rfl : i = c := by omega
      have HF := Lib.hid (finish_any hB (by omega) hbl (by rw [P.starts_len]; omega) (fun m hm => by
        unfold P.starts at hm
        obtain ⟨r, hr, rfl⟩ := List.mem_map.1 hm
        have h1 := P.upTo_most hgd (4 * r)
        have h2 := List.mem_range.1 hr
        omega) hszr)
      rw [P.bytesB_eq li i hli] at HF
      by_cases hEq : P.bytesB li = s
      · have hO : P.Opens s li := ⟨hgd, hEq⟩
        have hEs := HEs.out li hO
        have hPs := (HC.out li hO).2.2
        have hqb : (P.bytesB li == s) = true := by rw [beq_iff_eq]; exact hEq
        have HO := Lib.hid hO
        have HLi := Lib.hid hli
        have hbb : P.bytesB li = s := hEq
        rw [hbb] at HF
        clear hEq hqb hO hbb
        go_wp2_with (go_at_call 12; (with_reducible refine HF.out.mono ?_); rintro e w5 ⟨rfl, _, hb5, hbt5⟩)
        exact bodyPost_ret (v := .tuple #[.pointer (some ⟨gx, 0, none⟩), .int .i64 0]) (by simp [results, Try.results13, go_sem]) rfl ⟨hb.trans (hb5.mono (Nat.le_trans hgxw (Nat.le_succ _))), .inl ⟨li, gx, HO.out, rfl, _, _, (by
          have := hx.butS hbt5 (hB.other hx (by decide) (by decide) (by decide))
          rw [hEs, ← HLi.out] at this
          exact this), (by
          have := hI.butS hbt5 (hB.otherR hI (by decide) (by decide) (by decide))
          rw [HLi.out, ← hPs]
          exact this)⟩⟩
      · have hno : ∀ l, ¬ P.Opens s l := fun l h => by
          have h1 := (HC.out l h).1
          have h2 := HLen.out l h
          rw [← h2, List.take_length] at h1
          exact hEq (by rw [h1]; exact h.2)
        have HNo := Lib.hid hno
        have hqb : (P.bytesB li == s) = false := by rw [beq_eq_false_iff_ne]; exact hEq
        clear hno
        generalize P.bytesB li = bl at *
        go_wp2_with (go_at_call 12; (with_reducible refine HF.out.mono ?_); rintro e w5 ⟨rfl, _, hb5, hbt5⟩)
        exact bodyPost_ret (v := .tuple #[.pointer none, .int .i64 8]) (by simp [results, Try.results13, go_sem]) rfl ⟨hb.trans (hb5.mono (Nat.le_trans hgxw (Nat.le_succ _))), .inr ⟨HNo.out, rfl⟩⟩
theorem open_any (s : List UInt8) (w : World) (hs : s.length ≤ 100000) : Calls Try.prog 13 #[S s] w (OpenP s w) := by
  by_cases h : P.bigOk (s.drop (s.length - 4)) 4 = true ∧ (P.bigNum (s.drop (s.length - 4)) 4 + 3) / 4 + 1 ≤ s.length / 4
  · exact open_some s w hs _ h.1 rfl h.2
  · refine open_none s w hs ?_
    cases hok : P.bigOk (s.drop (s.length - 4)) 4 with
    | false => exact .inl rfl
    | true => exact .inr (by
      rcases Nat.lt_or_ge (s.length / 4) ((P.bigNum (s.drop (s.length - 4)) 4 + 3) / 4 + 1) with h2 | h2
      · exact h2
      · exact absurd ⟨hok, h2⟩ h)
end Go.Proofs.Ythaiekilifoegaa
