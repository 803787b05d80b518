/- The walk of edit's Decode. -/
import Derived.Test.YthpgigjplknomaaWEdRd
import Derived.Test.YthpgigjplknomaaWOwnR2
import Derived.Deep.RegionLaw
import Derived.Deep.AppendLies
namespace Go.Proofs.Ythpgigjplknomaa
open Go.RowKit
set_option linter.unusedVariables false

abbrev OwnTabs (w : World) (B : Nat) (v : Value) (l : List P.Tab) : Prop := OwnR 31 8 tabCells w B v l
theorem infoTab : (Try.prog.info? 31).map (fun i => (i.zero, i.size, i.bytes)) = some (some (.agg #[.int .u64 0, .int .i64 0, .int .i64 0, .int .i64 0, .string ByteArray.empty, .string ByteArray.empty, .int .u64 0, .int .u64 0]), 8, 80) := by kernel_rfl
theorem wpList_pushTab {ops : Array Oper} {rest : List Oper} {o : Oper} {a : Act} {w : World} {Q : Exit → Act → World → Prop} (hgd : o.guard = none) (s x : Operand)
    (ho : o.op = .call { callee := .builtin .append, args := #[s, x], argTypes := #[25, 25] }) (B : Nat) (v : Value) (l : List P.Tab) (c : P.Tab) (hs : a.eval s = v) (hown : OwnTabs w B v l) (hl : l.length < 100000)
    (A : Array Value) (hA : A = (tabCells c).toArray) (hx : a.eval x = .slice (some ⟨w.heap.size, 0, none⟩) 1 1) (hB : B ≤ w.heap.size)
    (h : ∀ v' w', OwnTabs w' B v' (l ++ [c]) → Below B w w' → wpList Try.prog ops Q rest (a.put o.dst v') w') :
    wpList Try.prog ops Q (o :: rest) a (w.alloc (.cells A 31)) := by
  obtain ⟨i, hq, h1, h2, h3⟩ := info_parts infoTab
  exact wpList_pushR hgd s x 25 ho i _ 80 Try.underlying25 hq h1 h2 h3 rfl (by decide) tabCells_len tabCells_one c hs hown hl (by decide) A hA hx hB h
/-- Numbers that the call owns. -/
abbrev numCells (n : Nat) : List Value := [V64 n]
theorem numCells_len (n : Nat) : (numCells n).length = 1 := rfl
theorem numCells_one (n : Nat) : ∀ u ∈ numCells n, u.oneCell' = true := by
  intro u hu
  simp at hu
  subst hu
  rfl
abbrev OwnNums (w : World) (B : Nat) (v : Value) (l : List Nat) : Prop := OwnR 27 1 numCells w B v l
theorem NumsAt.of {w : World} {a : Option Addr} {l : List Nat} (h : RowsAt 1 numCells w a l) : NumsAt w a l := by
  intro i hi
  obtain ⟨b, o, rfl, hlt, hc⟩ := h i hi
  refine ⟨b, o, rfl, hlt, ?_⟩
  have := hc 0 (by omega)
  rw [Nat.mul_one, Nat.add_zero] at this
  exact this

theorem infoU64 : (Try.prog.info? 27).map (fun i => (i.zero, i.size, i.bytes)) = some (some (.int .u64 0), 1, 8) := by kernel_rfl
theorem step_pushNum {ops : Array Oper} {o : Oper} {a : Act} {w : World} {K : Act → World → Prop} {Q : Exit → Act → World → Prop} {E : Prop} (hgd : o.guard = none) (s x : Operand)
    (ho : o.op = .call { callee := .builtin .append, args := #[s, x], argTypes := #[26, 26] }) (B : Nat) (v : Value) (l : List Nat) (c : Nat) (hs : a.eval s = v) (hown : OwnNums w B v l) (hl : l.length < 100000)
    (g : Nat) (A : Array Value) (f : Nat × Nat) (hg : w.heap[g]? = some (.cells A 27 f)) (hA : A = (numCells c).toArray) (hx : a.eval x = .slice (some ⟨g, 0, none⟩) 1 1) (hB : B ≤ w.heap.size)
    (h : ∀ v' w', OwnNums w' B v' (l ++ [c]) → Below B w w' → KeptT 27 w w' → K (a.put o.dst v') w') :
    if Region.wanted o (yielded ops a.tmps) = true then Oper.wp Try.prog o a w K Q else E := by
  obtain ⟨i, hq, h1, h2, h3⟩ := info_parts infoU64
  exact step_pushR2 hgd s x 26 ho i _ 8 Try.underlying26 hq h1 h2 h3 rfl (by decide) numCells_len numCells_one c hs hown hl (by decide) g A f hg hA hx hB h
/-- What is given back where there is no edit. -/
abbrev noEd : Value := .tuple #[edV none 0 0 none 0 0 0 0 0, .bool false]
def DecE (r : Option P.Ed) (e : Ending) (w : World) : Prop := match r with
  | none => e = .returned noEd
  | some x => ∃ a c b d, e = .returned (.tuple #[edV a x.add.length c b x.drop.length d x.log x.seq x.next, .bool true]) ∧ EdAt w a b x
theorem number_ex (g : Nat) (s : List UInt8) (bad : Bool) (z : Int) (most : Nat) (hz : z = (most : Int)) (w : World) (hs : s.length ≤ 1000000) (hx : RdBx w g s bad) :
    Calls Try.prog 34 #[.pointer (some ⟨g, 0, none⟩), .int .u64 z] w fun e w' => ∃ (r : Nat) (s' : List UInt8) (b' : Bool), Hid ((r, s', b') = P.rdS most s bad) ∧ e = .returned (V64 r) ∧ RdBx w' g s' b' ∧ But g w w' ∧ s'.length ≤ s.length := by
  refine (number_rd g s bad z most hz w hs hx).mono ?_
  rintro e w' ⟨rfl, hx', hb⟩
  exact ⟨_, _, _, Lib.hid rfl, rfl, hx', hb, P.rdS_len most s bad⟩
theorem whole_ex (g : Nat) (s : List UInt8) (bad : Bool) (w : World) (hs : s.length ≤ 1000000) (hx : RdBx w g s bad) :
    Calls Try.prog 35 #[.pointer (some ⟨g, 0, none⟩)] w fun e w' => ∃ (r : Nat) (s' : List UInt8) (b' : Bool), Hid ((r, s', b') = P.rdS 9223372036854775807 s bad) ∧ e = .returned (.int .i64 (r : Int)) ∧ RdBx w' g s' b' ∧ But g w w' ∧ s'.length ≤ s.length := by
  refine (whole_rd g s bad w hs hx).mono ?_
  rintro e w' ⟨rfl, hx', hb⟩
  exact ⟨_, _, _, Lib.hid rfl, rfl, hx', hb, P.rdS_len _ s bad⟩
theorem text_ex (g : Nat) (s : List UInt8) (bad : Bool) (w : World) (hs : s.length ≤ 1000000) (hx : RdBx w g s bad) :
    Calls Try.prog 36 #[.pointer (some ⟨g, 0, none⟩)] w fun e w' => ∃ (r : List UInt8) (s' : List UInt8) (b' : Bool), Hid ((r, s', b') = P.rdX s bad) ∧ e = .returned (S r) ∧ RdBx w' g s' b' ∧ But g w w' ∧ s'.length ≤ s.length := by
  refine (text_rd g s bad w hs hx).mono ?_
  rintro e w' ⟨rfl, hx', hb⟩
  exact ⟨_, _, _, Lib.hid rfl, rfl, hx', hb, P.rdX_len s bad⟩

set_option maxRecDepth 100000 in
set_option maxHeartbeats 2000000 in
theorem decode_long (s : List UInt8) (w : World) (hs : s.length ≤ 9223372036854775807) (hbig : 524288 < s.length) :
    Calls Try.prog 14 #[S s] w fun e w' => e = .returned noEd ∧ Below w.heap.size w w' := by
  have hi : (524288 : Int) < (s.length : Int) := by omega
  clear hbig
  go_enter Try.func14, Try.ntmps14
  go_wp2
  exact bodyPost_ret (v := noEd) (by simp [results, Try.results14, go_sem]) rfl ⟨rfl, (Below.refl _ _).alloc (Nat.le_refl _) _⟩
theorem three_boxes (w : World) (A B C : Array Value) (t u v : TypeId) :
    Bx (((w.alloc (.cells A t)).alloc (.cells B u)).alloc (.cells C v)) w.heap.size t A ∧ Bx (((w.alloc (.cells A t)).alloc (.cells B u)).alloc (.cells C v)) (w.heap.size + 1) u B ∧ Bx (((w.alloc (.cells A t)).alloc (.cells B u)).alloc (.cells C v)) (w.heap.size + 1 + 1) v C ∧
      Below w.heap.size w (((w.alloc (.cells A t)).alloc (.cells B u)).alloc (.cells C v)) := by
  refine ⟨?_, ?_, ?_, (((Below.refl _ _).alloc (Nat.le_refl _) _).alloc (by simp) _).alloc (by simp; omega) _⟩
  · exact ((Bx.fresh w t A).up ((Below.refl _ _).alloc (Nat.le_refl _) _)).up ((Below.refl _ _).alloc (Nat.le_refl _) _)
  · have h := (Bx.fresh (w.alloc (.cells A t)) u B).up ((Below.refl _ _).alloc (Nat.le_refl _) (.cells C v))
    rwa [show (w.alloc (.cells A t)).heap.size = w.heap.size + 1 by simp] at h
  · have h := Bx.fresh ((w.alloc (.cells A t)).alloc (.cells B u)) v C
    rwa [show ((w.alloc (.cells A t)).alloc (.cells B u)).heap.size = w.heap.size + 1 + 1 by simp] at h

/-- A number of 64 bits. -/
def P.small64 (n : Nat) : Prop := n ≤ 18446744073709551615
theorem P.small64_le {n : Nat} (h : P.small64 (n + 1)) : P.small64 n := Nat.le_of_succ_le h
theorem P.small64_wrap {n : Nat} (h : P.small64 (n + 1)) : IntKind.u64.wrap (n : Int) = (n : Int) := by
  unfold P.small64 at h
  rw [IntKind.wrap_u64]
  omega
/-- Behind so many tables. -/
def P.LoopT (s s1 : List UInt8) (n : Nat) (l : List P.Tab) (st : List UInt8) (bad : Bool) (n' : Nat) : Prop :=
  (bad = true → P.decE s = none) ∧ (bad = false → P.rd s = some (n, s1) ∧ P.rdTabs l.length s1 = some (l, st) ∧ l.length + n' = n) ∧ st.length ≤ s.length ∧ l.length ≤ 90000
def P.LoopD (s s1 : List UInt8) (n : Nat) (l : List P.Tab) (st : List UInt8) (m : Nat) (s3 : List UInt8) (d : List Nat) (r : List UInt8) (bad : Bool) (m' : Nat) : Prop :=
  (bad = true → P.decE s = none) ∧ (bad = false → (P.rd s = some (n, s1) ∧ P.rdTabs n s1 = some (l, st) ∧ P.rd st = some (m, s3)) ∧ P.rdNums d.length s3 = some (d, r) ∧ d.length + m' = m) ∧ r.length ≤ s.length ∧ d.length ≤ 90001
theorem P.loopT_start {s s1 : List UInt8} {n : Nat} {b : Bool} (h : (n, s1, b) = P.rdS 18446744073709551615 s false) (hl : s1.length ≤ s.length) : P.LoopT s s1 n [] s1 b n :=
  ⟨fun hb => P.ed_no1 ((P.rdS_u h).2 hb rfl), fun hb => ⟨((P.rdS_u h).1 hb).2, rfl, by simp⟩, hl, by simp⟩
theorem P.loopT_next {s s1 : List UInt8} {n n' : Nat} {l : List P.Tab} {st st' : List UInt8} {t : P.Tab} {b : Bool} (hs : s.length ≤ 90000) (h : P.LoopT s s1 n l st false (n' + 1)) (hyes : b = false → P.rdTab st = some (t, st')) (hno : b = true → P.rdTab st = none) (hl : st'.length ≤ st.length) :
    P.LoopT s s1 n (l ++ [t]) st' b n' := by
  obtain ⟨_, h2, h3, h4⟩ := h
  obtain ⟨e1, e2, e3⟩ := h2 rfl
  have hln := P.rdTabs_len e2
  have hl1 := P.rd_len e1
  refine ⟨fun hb => P.ed_no2 e1 (P.rdTabs_stop _ _ _ _ _ (by omega) e2 (hno hb)), fun hb => ⟨e1, ?_, by simp; omega⟩, by omega, by simp; omega⟩
  rw [List.length_append]
  exact P.rdTabs_snoc _ _ _ _ _ _ e2 (hyes hb)
theorem P.loopD_start {s s1 : List UInt8} {n n' m : Nat} {l : List P.Tab} {st s3 : List UInt8} {bad b : Bool} (h : P.LoopT s s1 n l st bad n') (hex : bad = false → n' = 0) (hr : (m, s3, b) = P.rdS 18446744073709551615 st bad) (hl : s3.length ≤ st.length) : P.LoopD s s1 n l st m s3 [] s3 b m := by
  obtain ⟨h1, h2, h3, h4⟩ := h
  refine ⟨fun hb => ?_, fun hb => ?_, by omega, by simp⟩
  · cases bad with
    | true => exact h1 rfl
    | false =>
      obtain ⟨e1, e2, e3⟩ := h2 rfl
      have := hex rfl
      rw [show l.length = n by omega] at e2
      exact P.ed_no3 e1 e2 ((P.rdS_u hr).2 hb rfl)
  · obtain ⟨hb0, e⟩ := (P.rdS_u hr).1 hb
    subst hb0
    obtain ⟨e1, e2, e3⟩ := h2 rfl
    have := hex rfl
    rw [show l.length = n by omega] at e2
    exact ⟨⟨e1, e2, e⟩, rfl, by simp⟩
theorem P.loopD_next {s s1 : List UInt8} {n m m' : Nat} {l : List P.Tab} {st s3 r r' : List UInt8} {d : List Nat} {x : Nat} {b : Bool} (hs : s.length ≤ 90000) (h : P.LoopD s s1 n l st m s3 d r false (m' + 1)) (hr : (x, r', b) = P.rdS 18446744073709551615 r false) (hl : r'.length ≤ r.length) :
    P.LoopD s s1 n l st m s3 (d ++ [x]) r' b m' := by
  obtain ⟨_, h2, h3, h4⟩ := h
  obtain ⟨⟨e1, e2, e3⟩, e4, e5⟩ := h2 rfl
  have a := P.rdTabs_len e2
  have a1 := P.rd_len e1
  have a2 := P.rd_len e3
  have a3 := P.rdNums_len e4
  refine ⟨fun hb => P.ed_no4 e1 e2 e3 (P.rdNums_stop _ _ _ _ _ (by omega) e4 ((P.rdS_u hr).2 hb rfl)), fun hb => ⟨⟨e1, e2, e3⟩, ?_, by simp; omega⟩, by omega, by simp; omega⟩
  rw [List.length_append]
  exact P.rdNums_snoc _ _ _ _ _ _ e4 ((P.rdS_u hr).1 hb).2

theorem P.tail_any {s s1 s3 st r s5 s6 s7 : List UInt8} {n m m' x y z : Nat} {l : List P.Tab} {d : List Nat} {bad b5 b6 b7 : Bool} (hs : s.length ≤ 90000) (h : P.LoopD s s1 n l st m s3 d r bad m') (hex : bad = false → m' = 0)
    (h5 : (x, s5, b5) = P.rdS 18446744073709551615 r bad) (h6 : (y, s6, b6) = P.rdS 18446744073709551615 s5 b5) (h7 : (z, s7, b7) = P.rdS 18446744073709551615 s6 b6) :
    P.decE s = if b7 = false ∧ s7 = [] ∧ P.mayB ⟨l, d, x, y, z⟩ = true then some ⟨l, d, x, y, z⟩ else none := by
  obtain ⟨k1, k2, k3, k4⟩ := h
  cases bad with
  | true =>
    rw [P.rdS_sticky] at h5
    simp only [Prod.mk.injEq] at h5
    obtain ⟨rfl, rfl, rfl⟩ := h5
    rw [P.rdS_sticky] at h6
    simp only [Prod.mk.injEq] at h6
    obtain ⟨rfl, rfl, rfl⟩ := h6
    rw [P.rdS_sticky] at h7
    simp only [Prod.mk.injEq] at h7
    obtain ⟨rfl, rfl, rfl⟩ := h7
    rw [k1 rfl, if_neg (by simp)]
  | false =>
    obtain ⟨⟨e1, e2, e3⟩, e4, e5⟩ := k2 rfl
    have := hex rfl
    rw [show d.length = m by omega] at e4
    exact P.ed_tail (by omega) e1 e2 e3 e4 h5 h6 h7

set_option maxRecDepth 100000 in
set_option maxHeartbeats 16000000 in
theorem decode_main (s : List UInt8) (w : World) (hs : s.length ≤ 90000) :
    Calls Try.prog 14 #[S s] w fun e w' => DecE (P.decE s) e w' ∧ Below w.heap.size w w' := by
  have hi : (s.length : Int) ≤ 524288 := by omega
  obtain ⟨hx0, hx1, hx2, hc0⟩ := three_boxes w #[.slice none 0 0, .slice none 0 0, .int .u64 0, .int .u64 0, .int .u64 0] #[S s, .bool false] #[.slice none 0 0, .slice none 0 0, .int .u64 0, .int .u64 0, .int .u64 0] 29 67 29
  go_enter Try.func14, Try.ntmps14
  go_wp2_with (first
    | (go_at_call 34; (with_reducible refine (number_ex (w.heap.size + 1) s false 18446744073709551615 18446744073709551615 rfl _ ?hs hx1).mono ?_); (case hs => omega); rintro e w1 ⟨n, s1, b1, Hr1, rfl, hy1, hb1, hl1⟩; have hy0 := hx0.but hb1 (by omega); have hy2 := hx2.but hb1 (by omega); have hc1 := hc0.trans (hb1.below (Nat.le_succ _) hc0.size)))
  have hg2 : w.heap.size + 1 + 1 + 1 ≤ w1.heap.size := by have := hb1.size; simp at this; omega
  have Hs := Lib.hid hs
  have HT := Lib.hid (P.loopT_start Hr1.out hl1)
  have Hn64 := Lib.hid (show P.small64 n by have := P.rdS_le 18446744073709551615 s false; rw [← Hr1.out] at this; exact this)
  clear hx0 hx1 hx2 hc0 hb1 hl1
  go_loopw [6] (fun z wr => ∃ (n' : Nat) (l : List P.Tab) (u : Value) (st : List UInt8) (bad : Bool), z = V64 n' ∧ P.small64 n' ∧ P.LoopT s s1 n l st bad n' ∧ RdBx wr (w.heap.size + 1) st bad ∧ Bx wr w.heap.size 29 #[.slice none 0 0, .slice none 0 0, .int .u64 0, .int .u64 0, .int .u64 0] ∧ Bx wr (w.heap.size + 1 + 1) 29 #[u, .slice none 0 0, .int .u64 0, .int .u64 0, .int .u64 0] ∧
      OwnTabs wr (w.heap.size + 1 + 1 + 1) u l ∧ w.heap.size + 1 + 1 + 1 ≤ wr.heap.size ∧ Below w.heap.size w wr) (fun z _ => (intOf z).toNat)
  case atStart => exact ⟨n, [], _, s1, b1, rfl, Hn64.out, HT.out, hy1, hy0, hy2, ownR_nil _ _, hg2, hc1⟩
  case round =>
    clear hy1 hy0 hy2 hc1 hg2 HT
    obtain ⟨n', l, u, st, bad, rfl, hn64, HT, hx1, hx0, hx2, hown, hsz, hb⟩ := hrel
    have HT := Lib.hid HT
    have Hn64 := Lib.hid hn64
    clear hn64
    have hstl : st.length ≤ 90000 := by have := HT.out.2.2.1; omega
    have hll : l.length < 100000 := by have := HT.out.2.2.2; omega
    by_cases hgo : bad = false ∧ 0 < n'
    · obtain ⟨rfl, hn0⟩ := hgo
      obtain ⟨m', rfl⟩ : ∃ m', n' = m' + 1 := ⟨n' - 1, by omega⟩
      have hpos : (0 : Int) < ((m' + 1 : Nat) : Int) := by omega
      have hwm := P.small64_wrap Hn64.out
      clear hn0
      obtain ⟨p0, p1, _, _⟩ := hx1.two
      go_wp2_with (first
        | (go_at_call 34; (with_reducible refine (number_ex (w.heap.size + 1) st false 18446744073709551615 18446744073709551615 rfl _ ?hs hx1).mono ?_); (case hs => omega); rintro e q1 ⟨t1, r1, c1, Hr1, rfl, hz1, hd1, hk1⟩)
        | (go_at_call 35; (with_reducible refine (whole_ex (w.heap.size + 1) _ _ _ ?hs2 hz1).mono ?_); (case hs2 => omega); rintro e q2 ⟨t2, r2, c2, Hr2, rfl, hz2, hd2, hk2⟩)
        | (go_at_call 35; (with_reducible refine (whole_ex (w.heap.size + 1) _ _ _ ?hs3 hz2).mono ?_); (case hs3 => omega); rintro e q3 ⟨t3, r3, c3, Hr3, rfl, hz3, hd3, hk3⟩)
        | (go_at_call 35; (with_reducible refine (whole_ex (w.heap.size + 1) _ _ _ ?hs4 hz3).mono ?_); (case hs4 => omega); rintro e q4 ⟨t4, r4, c4, Hr4, rfl, hz4, hd4, hk4⟩)
        | (go_at_call 34; (with_reducible refine (number_ex (w.heap.size + 1) _ _ 18446744073709551615 18446744073709551615 rfl _ ?hs5 hz4).mono ?_); (case hs5 => omega); rintro e q5 ⟨t5, r5, c5, Hr5, rfl, hz5, hd5, hk5⟩)
        | (go_at_call 34; (with_reducible refine (number_ex (w.heap.size + 1) _ _ 18446744073709551615 18446744073709551615 rfl _ ?hs6 hz5).mono ?_); (case hs6 => omega); rintro e q6 ⟨t6, r6, c6, Hr6, rfl, hz6, hd6, hk6⟩;
            have hd06 := ((((hd1.trans hd2).trans hd3).trans hd4).trans hd5).trans hd6; have ha6 := hz6.up ((Below.refl q6.heap.size q6).alloc (Nat.le_refl _) (.cells #[V64 t1, .int .i64 (t2 : Int), .int .i64 (t3 : Int), .int .i64 (t4 : Int), S [], S [], V64 t5, V64 t6] 31)); have hbt6 := Bx.fresh q6 31 #[V64 t1, .int .i64 (t2 : Int), .int .i64 (t3 : Int), .int .i64 (t4 : Int), S [], S [], V64 t5, V64 t6]; have Hne := Lib.hid (show q6.heap.size ≠ w.heap.size + 1 by have := hd06.size; omega))
        | (go_at_call 36; (with_reducible refine (text_ex (w.heap.size + 1) _ _ _ ?hs7 ha6).mono ?_); (case hs7 => omega); rintro e q7 ⟨t7, r7, c7, Hr7, rfl, hz7, hd7, hk7⟩; have hbt7 := hbt6.but hd7 Hne.out)
        | (go_at_call 36; (with_reducible refine (text_ex (w.heap.size + 1) _ _ _ ?hs8 hz7).mono ?_); (case hs8 => omega); rintro e q8 ⟨t8, r8, c8, Hr8, rfl, hz8, hd8, hk8⟩; have hbt8 := hbt7.but hd8 Hne.out; have zf4 := hbt8.frozen 4; have zf5 := hbt8.frozen 5; obtain ⟨⟨e0, e1, e2, e3⟩, e4, e5, e6, e7⟩ := hbt8.eight;
            have hbt9 : Bx ((q8.setCell ⟨q6.heap.size, 4, none⟩ (S t7)).setCell ⟨q6.heap.size, 5, none⟩ (S t8)) q6.heap.size 31 #[V64 t1, .int .i64 (t2 : Int), .int .i64 (t3 : Int), .int .i64 (t4 : Int), S t7, S t8, V64 t5, V64 t6] := (hbt8.set 4 (S t7)).set 5 (S t8);
            have hB9 : But (w.heap.size + 1) wr ((q8.setCell ⟨q6.heap.size, 4, none⟩ (S t7)).setCell ⟨q6.heap.size, 5, none⟩ (S t8)) := ((((hd06.alloc _).trans hd7).trans hd8).setNew hd06.size _).setNew hd06.size _;
            have hz9 : RdBx ((q8.setCell ⟨q6.heap.size, 4, none⟩ (S t7)).setCell ⟨q6.heap.size, 5, none⟩ (S t8)) (w.heap.size + 1) r8 c8 := (hz8.other Hne.out 4 _).other Hne.out 5 _;
            have hx09 := hx0.but hB9 (by omega); have hx29 := hx2.but hB9 (by omega); have hown9 := hown.but hx1 (by decide) hB9; have hs9 := Nat.le_trans hsz hB9.size; have hb9 := hb.trans (hB9.below (Nat.le_succ _) hb.size);
            obtain ⟨y0, y1, y2, y3, y4⟩ := hx29.five; obtain ⟨⟨m0, m1, m2, m3⟩, m4, m5, m6, m7⟩ := hbt9.eight)
        | (at_builtin; (refine wpList_pushTab (by rfl) _ _ (by rfl) (w.heap.size + 1 + 1 + 1) _ l ⟨t1, (t2 : Int), (t3 : Int), (t4 : Int), t7, t8, t5, t6⟩ (by rfl) hown9 hll _ ?hA ?hx hs9 ?_; (case hA => rfl); (case hx => (show Value.slice (some ⟨_, 0, none⟩) 1 1 = _); simp); intro v' w10 hown10 hb10; obtain ⟨ad, cc, hv', _, _⟩ := hown10.is tabCells_len; (subst hv'); have hx0a := hx09.below hb10 (by omega); have hx1a := hz9.below hb10 (by omega); have hx2a := hx29.below hb10 (by omega); obtain ⟨u0, u1, u2, u3, u4⟩ := hx2a.five; have uf := hx2a.frozen 0)))
      go_roundw
      case rel =>
        have hst := P.tab_steps Hr1.out Hr2.out Hr3.out Hr4.out Hr5.out Hr6.out Hr7.out Hr8.out
        exact ⟨m', l ++ [⟨t1, (t2 : Int), (t3 : Int), (t4 : Int), t7, t8, t5, t6⟩], .slice ad (l ++ [(⟨t1, (t2 : Int), (t3 : Int), (t4 : Int), t7, t8, t5, t6⟩ : P.Tab)]).length cc, r8, c8, by go_num, P.small64_le Hn64.out, P.loopT_next Hs.out HT.out hst.1 hst.2 (by omega),
          hx1a.other (by omega) 0 _, hx0a.other (by omega) 0 _, by simpa using hx2a.set 0 (.slice ad (l ++ [(⟨t1, (t2 : Int), (t3 : Int), (t4 : Int), t7, t8, t5, t6⟩ : P.Tab)]).length cc), hown10.other (by omega) 0 _,
          Nat.le_trans hs9 (Nat.le_trans hb10.size ((Below.refl w.heap.size w10).setCell (p := ⟨w.heap.size + 1 + 1, 0, none⟩) (by show w.heap.size ≤ w.heap.size + 1 + 1; omega) _).size), (hb9.trans (hb10.mono (by omega))).setCell (p := ⟨w.heap.size + 1 + 1, 0, none⟩) (by show w.heap.size ≤ w.heap.size + 1 + 1; omega) _⟩
      case measure => simp [intOf]
    · have hex : bad = false → n' = 0 := fun h => by
        rcases Nat.eq_zero_or_pos n' with h0 | h0
        · exact h0
        · exact absurd ⟨h, h0⟩ hgo
      rcases Nat.eq_zero_or_pos n' with rfl | hpos
      · have Hex := Lib.hid hex
        clear hgo hex
        obtain ⟨p0, p1, _, _⟩ := hx1.two
        go_wp2_with (go_at_call 34; (with_reducible refine (number_ex (w.heap.size + 1) st _ 18446744073709551615 18446744073709551615 rfl _ ?hs hx1).mono ?_); (case hs => omega); rintro e w2 ⟨m, s3, b3, Hr3, rfl, hz1, hd1, hk1⟩)
        have hz0 := hx0.but hd1 (by omega)
        have hz2 := hx2.but hd1 (by omega)
        have hownT := hown.but hx1 (by decide) hd1
        have hszT := Nat.le_trans hsz hd1.size
        have hbT := hb.trans (hd1.below (Nat.le_succ _) hb.size)
        have HD := Lib.hid (P.loopD_start HT.out (fun _ => rfl) Hr3.out hk1)
        have Hm64 := Lib.hid (show P.small64 m by have h := congrArg Prod.fst Hr3.out; have h2 := P.rdS_le 18446744073709551615 st bad; simp only at h; rw [h]; exact h2)
        clear hx1 hx0 hx2 hown hsz hb hd1 p0 p1 HT
        go_loopw [8] (fun z wr => ∃ (m' : Nat) (d : List Nat) (u2 : Value) (r : List UInt8) (bad2 : Bool), z = V64 m' ∧ P.small64 m' ∧ P.LoopD s s1 n l st m s3 d r bad2 m' ∧ RdBx wr (w.heap.size + 1) r bad2 ∧ Bx wr w.heap.size 29 #[.slice none 0 0, .slice none 0 0, .int .u64 0, .int .u64 0, .int .u64 0] ∧ Bx wr (w.heap.size + 1 + 1) 29 #[u, u2, .int .u64 0, .int .u64 0, .int .u64 0] ∧
            OwnTabs wr (w.heap.size + 1 + 1 + 1) u l ∧ OwnNums wr (w.heap.size + 1 + 1 + 1) u2 d ∧ w.heap.size + 1 + 1 + 1 ≤ wr.heap.size ∧ Below w.heap.size w wr) (fun z _ => (intOf z).toNat)
        case atStart => exact ⟨m, [], _, s3, b3, rfl, Hm64.out, HD.out, hz1, hz0, hz2, hownT, ownR_nil _ _, hszT, hbT⟩
        case round =>
          clear hz1 hz0 hz2 hownT hszT hbT HD Hm64
          obtain ⟨m', d, u2, r, bad2, rfl, hm64, HD, hx1, hx0, hx2, hownT, hownN, hsz, hb⟩ := hrel
          have HD := Lib.hid HD
          have Hm64 := Lib.hid hm64
          clear hm64
          have hrl : r.length ≤ 90000 := by have := HD.out.2.2.1; have := Hs.out; omega
          have hdl : d.length < 100000 := by have := HD.out.2.2.2; omega
          obtain ⟨p0, p1, _, _⟩ := hx1.two
          by_cases hgo2 : bad2 = false ∧ 0 < m'
          · obtain ⟨rfl, hm0⟩ := hgo2
            obtain ⟨j, rfl⟩ : ∃ j, m' = j + 1 := ⟨m' - 1, by omega⟩
            have hpos2 : (0 : Int) < ((j + 1 : Nat) : Int) := by omega
            have hwm2 := P.small64_wrap Hm64.out
            clear hm0
            obtain ⟨y0, y1, y2, y3, y4⟩ := hx2.five
            have hx1d : RdBx wr.drew (w.heap.size + 1) r false := hx1
            have hx2d : Bx wr.drew (w.heap.size + 1 + 1) 29 #[u, u2, .int .u64 0, .int .u64 0, .int .u64 0] := hx2
            have hownNd : OwnNums wr.drew (w.heap.size + 1 + 1 + 1) u2 d := hownN
            have hownTd : OwnTabs wr.drew (w.heap.size + 1 + 1 + 1) u l := hownT
            have hx0d : Bx wr.drew w.heap.size 29 #[.slice none 0 0, .slice none 0 0, .int .u64 0, .int .u64 0, .int .u64 0] := hx0
            have hszd : w.heap.size + 1 + 1 + 1 ≤ wr.drew.heap.size := hsz
            have hbd := hb.drew
            go_wp2
            go_region_law (first
              | (go_simp; go_at_call 34; (with_reducible refine (number_ex (w.heap.size + 1) r false 18446744073709551615 18446744073709551615 rfl _ ?hs hx1d).mono ?_); (case hs => omega); rintro e w5 ⟨x, r5, b5, Hr5, rfl, hz1, hd5, hk5⟩; have hz2 := hx2d.but hd5 (by omega); obtain ⟨k0, k1, k2, k3, k4⟩ := hz2.five; have k1a := cell_up ((Below.refl w5.heap.size w5).alloc (Nat.le_refl _) (.cells #[V64 x] 27)) k1; have hz0 := hx0d.but hd5 (by omega); have hN5 := hownNd.but hx1d (by decide) hd5; have hT5 := hownTd.but hx1d (by decide) hd5; have hs5 := Nat.le_trans hszd hd5.size; have hb5 := hbd.trans (hd5.below (Nat.le_succ _) hbd.size))
              | (refine step_pushNum (by rfl) _ _ (by rfl) (w.heap.size + 1 + 1 + 1) _ d x (by rfl) (OwnR.alloc hN5 _) hdl w5.heap.size _ (0, 0) (heap_alloc_new w5 _) (by rfl) (by rfl) (Nat.le_trans hs5 ((Below.refl w5.heap.size w5).alloc (Nat.le_refl _) (.cells #[V64 x] 27)).size) ?_; intro v' w7 hown7 hb7 hkt7; obtain ⟨ad, cc, hv', _, _⟩ := hown7.is numCells_len; (subst hv'); have ha := (Below.refl w5.heap.size w5).alloc (Nat.le_refl _) (.cells #[V64 x] 27); have hz0a := (hz0.up ha).below hb7 (by omega); have hz1a := (hz1.up ha).below hb7 (by omega); have hz2a := (hz2.up ha).below hb7 (by omega); have hs7 := Nat.le_trans (Nat.le_trans hs5 ha.size) hb7.size; have hb7b := (Chain.up hb5 ha).trans (hb7.mono (by omega)); have hT7 := (OwnR.alloc hT5 (.cells #[V64 x] 27)).keptT hkt7 (by decide); obtain ⟨g0, g1, g2, g3, g4⟩ := hz2a.five; have gf := hz2a.frozen 1))
            all_goals (go_wp2; go_roundw; (case rel => exact ⟨j, d ++ [x], .slice ad (d ++ [x]).length cc, r5, b5, by go_num, P.small64_le Hm64.out, P.loopD_next Hs.out HD.out Hr5.out hk5, hz1a.other (by omega) 1 _, hz0a.other (by omega) 1 _, by simpa using hz2a.set 1 (.slice ad (d ++ [x]).length cc), hT7.other (by omega) 1 _, hown7.other (by omega) 1 _, Nat.le_trans hs7 ((Below.refl w.heap.size w7).setCell (p := ⟨w.heap.size + 1 + 1, 1, none⟩) (by show w.heap.size ≤ w.heap.size + 1 + 1; omega) _).size, hb7b.setCell (p := ⟨w.heap.size + 1 + 1, 1, none⟩) (by show w.heap.size ≤ w.heap.size + 1 + 1; omega) _⟩); (case measure => simp [intOf]))
          · rcases Nat.eq_zero_or_pos m' with rfl | hpos2
            · clear hgo2
              obtain ⟨a1, c1, hu, _, _⟩ := hownT.is tabCells_len
              subst hu
              obtain ⟨a2, c2, hu, _, _⟩ := hownN.is numCells_len
              subst hu
              generalize hln : l.length = ln at *
              generalize hdn : d.length = dn at *
              have Hln := Lib.hid hln
              have Hdn := Lib.hid hdn
              clear hln hdn
              go_wp2_with (first
                | (go_at_call 34; (with_reducible refine (number_ex (w.heap.size + 1) r _ 18446744073709551615 18446744073709551615 rfl _ ?hs hx1).mono ?_); (case hs => omega); rintro e w5 ⟨x, r5, b5, Hr5, rfl, hz5, hd5, hk5⟩)
                | (go_at_call 34; (with_reducible refine (number_ex (w.heap.size + 1) r5 b5 18446744073709551615 18446744073709551615 rfl _ ?hs2 hz5).mono ?_); (case hs2 => omega); rintro e w6 ⟨y, r6, b6, Hr6, rfl, hz6, hd6, hk6⟩))
              go_at_call 34
              (with_reducible refine (number_ex (w.heap.size + 1) r6 b6 18446744073709551615 18446744073709551615 rfl _ ?hs3 hz6).mono ?_)
              case hs3 => omega
              rintro e w7 ⟨z, r7, b7, Hr7, rfl, hz7, hd7, hk7⟩
              have hd57 := (hd5.trans hd6).trans hd7
              have hx27 := hx2.but hd57 (by omega)
              have zf2 := hx27.frozen 2
              have zf3 := hx27.frozen 3
              have zf4 := hx27.frozen 4
              obtain ⟨v0, v1, v2, v3, v4⟩ := hx27.five
              have hz9 : RdBx (((w7.setCell ⟨w.heap.size + 1 + 1, 2, none⟩ (.int .u64 (x : Int))).setCell ⟨w.heap.size + 1 + 1, 3, none⟩ (.int .u64 (y : Int))).setCell ⟨w.heap.size + 1 + 1, 4, none⟩ (.int .u64 (z : Int))) (w.heap.size + 1) r7 b7 := ((hz7.other (by omega) 2 _).other (by omega) 3 _).other (by omega) 4 _
              have hx29 : Bx (((w7.setCell ⟨w.heap.size + 1 + 1, 2, none⟩ (.int .u64 (x : Int))).setCell ⟨w.heap.size + 1 + 1, 3, none⟩ (.int .u64 (y : Int))).setCell ⟨w.heap.size + 1 + 1, 4, none⟩ (.int .u64 (z : Int))) (w.heap.size + 1 + 1) 29 #[.slice a1 ln c1, .slice a2 dn c2, .int .u64 (x : Int), .int .u64 (y : Int), .int .u64 (z : Int)] := ((hx27.set 2 _).set 3 _).set 4 _
              have hx09 := (((hx0.but hd57 (by omega)).other (show w.heap.size + 1 + 1 ≠ w.heap.size by omega) 2 (.int .u64 (x : Int))).other (show w.heap.size + 1 + 1 ≠ w.heap.size by omega) 3 (.int .u64 (y : Int))).other (show w.heap.size + 1 + 1 ≠ w.heap.size by omega) 4 (.int .u64 (z : Int))
              have hT9 := ((((hownT.but hx1 (by decide) hd57).other (show w.heap.size + 1 + 1 < w.heap.size + 1 + 1 + 1 by omega) 2 (.int .u64 (x : Int))).other (show w.heap.size + 1 + 1 < w.heap.size + 1 + 1 + 1 by omega) 3 (.int .u64 (y : Int))).other (show w.heap.size + 1 + 1 < w.heap.size + 1 + 1 + 1 by omega) 4 (.int .u64 (z : Int)))
              have hN9 := ((((hownN.but hx1 (by decide) hd57).other (show w.heap.size + 1 + 1 < w.heap.size + 1 + 1 + 1 by omega) 2 (.int .u64 (x : Int))).other (show w.heap.size + 1 + 1 < w.heap.size + 1 + 1 + 1 by omega) 3 (.int .u64 (y : Int))).other (show w.heap.size + 1 + 1 < w.heap.size + 1 + 1 + 1 by omega) 4 (.int .u64 (z : Int)))
              have hb9 : Below w.heap.size w (((w7.setCell ⟨w.heap.size + 1 + 1, 2, none⟩ (.int .u64 (x : Int))).setCell ⟨w.heap.size + 1 + 1, 3, none⟩ (.int .u64 (y : Int))).setCell ⟨w.heap.size + 1 + 1, 4, none⟩ (.int .u64 (z : Int))) := (((hb.trans (hd57.below (Nat.le_succ _) hb.size)).setCell (p := ⟨w.heap.size + 1 + 1, 2, none⟩) (by show w.heap.size ≤ w.heap.size + 1 + 1; omega) _).setCell (p := ⟨w.heap.size + 1 + 1, 3, none⟩) (by show w.heap.size ≤ w.heap.size + 1 + 1; omega) _).setCell (p := ⟨w.heap.size + 1 + 1, 4, none⟩) (by show w.heap.size ≤ w.heap.size + 1 + 1; omega) _
              have Htl := Lib.hid (P.tail_any Hs.out HD.out (fun _ => rfl) Hr5.out Hr6.out Hr7.out)
              have hEd : EdAt (((w7.setCell ⟨w.heap.size + 1 + 1, 2, none⟩ (.int .u64 (x : Int))).setCell ⟨w.heap.size + 1 + 1, 3, none⟩ (.int .u64 (y : Int))).setCell ⟨w.heap.size + 1 + 1, 4, none⟩ (.int .u64 (z : Int))) a1 a2 ⟨l, d, x, y, z⟩ := ⟨hT9.at tabCells_len, NumsAt.of (hN9.at numCells_len)⟩
              have HO9T := Lib.hid hT9
              have HO9N := Lib.hid hN9
              have HC := Lib.hid (fun (r : Int) (hr : (P.chkE ⟨l, d, x, y, z⟩ : Int) = r) wx (hx : Below (((w7.setCell ⟨w.heap.size + 1 + 1, 2, none⟩ (.int .u64 (x : Int))).setCell ⟨w.heap.size + 1 + 1, 3, none⟩ (.int .u64 (y : Int))).setCell ⟨w.heap.size + 1 + 1, 4, none⟩ (.int .u64 (z : Int))).heap.size (((w7.setCell ⟨w.heap.size + 1 + 1, 2, none⟩ (.int .u64 (x : Int))).setCell ⟨w.heap.size + 1 + 1, 3, none⟩ (.int .u64 (y : Int))).setCell ⟨w.heap.size + 1 + 1, 4, none⟩ (.int .u64 (z : Int))) wx) => check_any ⟨l, d, x, y, z⟩ a1 a2 ln c1 dn c2 Hln.out.symm Hdn.out.symm wx (by have := Hln.out; show l.length ≤ _; omega) (by have := Hdn.out; show d.length ≤ _; omega) (hEd.up hx) x y z r hr)
              clear hEd hT9 hN9 hownT hownN hx1 hx0 hx2 hd5 hd6 hd7 hd57 hz5 hz6 hb
              obtain ⟨p0', p1', _, _⟩ := hz9.two
              obtain ⟨e0, e1, e2, e3, e4⟩ := hx29.five
              obtain ⟨f0, f1, f2, f3, f4⟩ := hx09.five
              have ff0 := hx09.frozen 0
              have ff1 := hx09.frozen 1
              have ff2 := hx09.frozen 2
              have ff3 := hx09.frozen 3
              have ff4 := hx09.frozen 4
              generalize hgw : (((w7.setCell ⟨w.heap.size + 1 + 1, 2, none⟩ (.int .u64 (x : Int))).setCell ⟨w.heap.size + 1 + 1, 3, none⟩ (.int .u64 (y : Int))).setCell ⟨w.heap.size + 1 + 1, 4, none⟩ (.int .u64 (z : Int))) = w9 at *
              cases b7 with
              | true =>
                have Hn := Lib.hid (show P.decE s = none by rw [Htl.out, if_neg (by simp)])
                go_wp2_with fail
                obtain ⟨q0, q1, q2, q3, q4⟩ := (hx09.set5 (.slice none 0 0) (.slice none 0 0) (.int .u64 0) (.int .u64 0) (.int .u64 0)).five
                exact bodyPost_ret (v := noEd) (by simp [results, Try.results14, go_sem, q0, q1, q2, q3, q4]) rfl ⟨by rw [Hn.out]; exact rfl, below_set5 (hb9) (Nat.le_refl _) _ _ _ _ _⟩
              | false =>
                by_cases hr7 : r7 = []
                · subst hr7
                  cases hmay : P.mayB ⟨l, d, x, y, z⟩ with
                  | true =>
                    have Hn := Lib.hid (show P.decE s = some ⟨l, d, x, y, z⟩ by rw [Htl.out, if_pos ⟨rfl, rfl, hmay⟩])
                    have HC0 := Lib.hid (HC.out 0 (by unfold P.chkE; rw [hmay]; rfl))
                    clear HC hmay Htl
                    go_wp2_with (go_at_call 13; (with_reducible refine (HC0.out _ (Below.refl _ _)).mono ?_); rintro e w10 ⟨rfl, hb10⟩; have hx0a := hx09.up hb10; have hx2a := hx29.up hb10; obtain ⟨i0, i1, i2, i3, i4⟩ := hx2a.five; obtain ⟨j0, j1, j2, j3, j4⟩ := hx0a.five; have jf0 := hx0a.frozen 0; have jf1 := hx0a.frozen 1; have jf2 := hx0a.frozen 2; have jf3 := hx0a.frozen 3; have jf4 := hx0a.frozen 4)
                    obtain ⟨q0, q1, q2, q3, q4⟩ := (hx0a.set5 (.slice a1 ln c1) (.slice a2 dn c2) (.int .u64 (x : Int)) (.int .u64 (y : Int)) (.int .u64 (z : Int))).five
                    have hOT := ((((((HO9T.out.up hb10).other (show w.heap.size < w.heap.size + 1 + 1 + 1 by omega) 0 (.slice a1 ln c1)).other (show w.heap.size < w.heap.size + 1 + 1 + 1 by omega) 1 (.slice a2 dn c2)).other (show w.heap.size < w.heap.size + 1 + 1 + 1 by omega) 2 (.int .u64 (x : Int))).other (show w.heap.size < w.heap.size + 1 + 1 + 1 by omega) 3 (.int .u64 (y : Int))).other (show w.heap.size < w.heap.size + 1 + 1 + 1 by omega) 4 (.int .u64 (z : Int))).at tabCells_len
                    have hON := ((((((HO9N.out.up hb10).other (show w.heap.size < w.heap.size + 1 + 1 + 1 by omega) 0 (.slice a1 ln c1)).other (show w.heap.size < w.heap.size + 1 + 1 + 1 by omega) 1 (.slice a2 dn c2)).other (show w.heap.size < w.heap.size + 1 + 1 + 1 by omega) 2 (.int .u64 (x : Int))).other (show w.heap.size < w.heap.size + 1 + 1 + 1 by omega) 3 (.int .u64 (y : Int))).other (show w.heap.size < w.heap.size + 1 + 1 + 1 by omega) 4 (.int .u64 (z : Int))).at numCells_len
                    exact bodyPost_ret (v := .tuple #[edV a1 ln c1 a2 dn c2 x y z, .bool true]) (by simp [results, Try.results14, go_sem, q0, q1, q2, q3, q4]) rfl ⟨by rw [Hn.out]; exact ⟨a1, c1, a2, c2, by simp only [Hln.out, Hdn.out], hOT, NumsAt.of hON⟩, below_set5 (Chain.up hb9 hb10) (Nat.le_refl _) _ _ _ _ _⟩
                  | false =>
                    have Hn := Lib.hid (show P.decE s = none by rw [Htl.out, if_neg (fun h => by rw [hmay] at h; cases h.2.2)])
                    have HC1 := Lib.hid (HC.out 1 (by unfold P.chkE; rw [hmay]; rfl))
                    clear HC hmay Htl
                    go_wp2_with (go_at_call 13; (with_reducible refine (HC1.out _ (Below.refl _ _)).mono ?_); rintro e w10 ⟨rfl, hb10⟩; have hx0a := hx09.up hb10; have hx2a := hx29.up hb10; obtain ⟨i0, i1, i2, i3, i4⟩ := hx2a.five; obtain ⟨j0, j1, j2, j3, j4⟩ := hx0a.five; have jf0 := hx0a.frozen 0; have jf1 := hx0a.frozen 1; have jf2 := hx0a.frozen 2; have jf3 := hx0a.frozen 3; have jf4 := hx0a.frozen 4)
                    obtain ⟨q0, q1, q2, q3, q4⟩ := (hx0a.set5 (.slice none 0 0) (.slice none 0 0) (.int .u64 0) (.int .u64 0) (.int .u64 0)).five
                    exact bodyPost_ret (v := noEd) (by simp [results, Try.results14, go_sem, q0, q1, q2, q3, q4]) rfl ⟨by rw [Hn.out]; exact rfl, below_set5 (Chain.up hb9 hb10) (Nat.le_refl _) _ _ _ _ _⟩
                · have Hn := Lib.hid (show P.decE s = none by rw [Htl.out, if_neg (fun h => hr7 h.2.1)])
                  have hr1 : (r7 == []) = false := beq_eq_false_iff_ne.2 hr7
                  have hr2 : (r7 != []) = true := by rw [bne, hr1]; rfl
                  clear hr7 Htl HC
                  go_wp2_with fail
                  obtain ⟨q0, q1, q2, q3, q4⟩ := (hx09.set5 (.slice none 0 0) (.slice none 0 0) (.int .u64 0) (.int .u64 0) (.int .u64 0)).five
                  exact bodyPost_ret (v := noEd) (by simp [results, Try.results14, go_sem, q0, q1, q2, q3, q4]) rfl ⟨by rw [Hn.out]; exact rfl, below_set5 (hb9) (Nat.le_refl _) _ _ _ _ _⟩
            · have hb2t : bad2 = true := by
                cases bad2 with
                | true => rfl
                | false => exact absurd ⟨rfl, hpos2⟩ hgo2
              subst hb2t
              have hpos2i : (0 : Int) < (m' : Int) := by omega
              clear hgo2 hpos2
              obtain ⟨a1, c1, hu, _, _⟩ := hownT.is tabCells_len
              subst hu
              obtain ⟨a2, c2, hu, _, _⟩ := hownN.is numCells_len
              subst hu
              generalize hln : l.length = ln at *
              generalize hdn : d.length = dn at *
              have Hln := Lib.hid hln
              have Hdn := Lib.hid hdn
              clear hln hdn
              go_wp2_with (first
                | (go_at_call 34; (with_reducible refine (number_ex (w.heap.size + 1) r _ 18446744073709551615 18446744073709551615 rfl _ ?hs hx1).mono ?_); (case hs => omega); rintro e w5 ⟨x, r5, b5, Hr5, rfl, hz5, hd5, hk5⟩)
                | (go_at_call 34; (with_reducible refine (number_ex (w.heap.size + 1) r5 b5 18446744073709551615 18446744073709551615 rfl _ ?hs2 hz5).mono ?_); (case hs2 => omega); rintro e w6 ⟨y, r6, b6, Hr6, rfl, hz6, hd6, hk6⟩))
              go_at_call 34
              (with_reducible refine (number_ex (w.heap.size + 1) r6 b6 18446744073709551615 18446744073709551615 rfl _ ?hs3 hz6).mono ?_)
              case hs3 => omega
              rintro e w7 ⟨z, r7, b7, Hr7, rfl, hz7, hd7, hk7⟩
              have hd57 := (hd5.trans hd6).trans hd7
              have hx27 := hx2.but hd57 (by omega)
              have zf2 := hx27.frozen 2
              have zf3 := hx27.frozen 3
              have zf4 := hx27.frozen 4
              obtain ⟨v0, v1, v2, v3, v4⟩ := hx27.five
              have hz9 : RdBx (((w7.setCell ⟨w.heap.size + 1 + 1, 2, none⟩ (.int .u64 (x : Int))).setCell ⟨w.heap.size + 1 + 1, 3, none⟩ (.int .u64 (y : Int))).setCell ⟨w.heap.size + 1 + 1, 4, none⟩ (.int .u64 (z : Int))) (w.heap.size + 1) r7 b7 := ((hz7.other (by omega) 2 _).other (by omega) 3 _).other (by omega) 4 _
              have hx29 : Bx (((w7.setCell ⟨w.heap.size + 1 + 1, 2, none⟩ (.int .u64 (x : Int))).setCell ⟨w.heap.size + 1 + 1, 3, none⟩ (.int .u64 (y : Int))).setCell ⟨w.heap.size + 1 + 1, 4, none⟩ (.int .u64 (z : Int))) (w.heap.size + 1 + 1) 29 #[.slice a1 ln c1, .slice a2 dn c2, .int .u64 (x : Int), .int .u64 (y : Int), .int .u64 (z : Int)] := ((hx27.set 2 _).set 3 _).set 4 _
              have hx09 := (((hx0.but hd57 (by omega)).other (show w.heap.size + 1 + 1 ≠ w.heap.size by omega) 2 (.int .u64 (x : Int))).other (show w.heap.size + 1 + 1 ≠ w.heap.size by omega) 3 (.int .u64 (y : Int))).other (show w.heap.size + 1 + 1 ≠ w.heap.size by omega) 4 (.int .u64 (z : Int))
              have hT9 := ((((hownT.but hx1 (by decide) hd57).other (show w.heap.size + 1 + 1 < w.heap.size + 1 + 1 + 1 by omega) 2 (.int .u64 (x : Int))).other (show w.heap.size + 1 + 1 < w.heap.size + 1 + 1 + 1 by omega) 3 (.int .u64 (y : Int))).other (show w.heap.size + 1 + 1 < w.heap.size + 1 + 1 + 1 by omega) 4 (.int .u64 (z : Int)))
              have hN9 := ((((hownN.but hx1 (by decide) hd57).other (show w.heap.size + 1 + 1 < w.heap.size + 1 + 1 + 1 by omega) 2 (.int .u64 (x : Int))).other (show w.heap.size + 1 + 1 < w.heap.size + 1 + 1 + 1 by omega) 3 (.int .u64 (y : Int))).other (show w.heap.size + 1 + 1 < w.heap.size + 1 + 1 + 1 by omega) 4 (.int .u64 (z : Int)))
              have hb9 : Below w.heap.size w (((w7.setCell ⟨w.heap.size + 1 + 1, 2, none⟩ (.int .u64 (x : Int))).setCell ⟨w.heap.size + 1 + 1, 3, none⟩ (.int .u64 (y : Int))).setCell ⟨w.heap.size + 1 + 1, 4, none⟩ (.int .u64 (z : Int))) := (((hb.trans (hd57.below (Nat.le_succ _) hb.size)).setCell (p := ⟨w.heap.size + 1 + 1, 2, none⟩) (by show w.heap.size ≤ w.heap.size + 1 + 1; omega) _).setCell (p := ⟨w.heap.size + 1 + 1, 3, none⟩) (by show w.heap.size ≤ w.heap.size + 1 + 1; omega) _).setCell (p := ⟨w.heap.size + 1 + 1, 4, none⟩) (by show w.heap.size ≤ w.heap.size + 1 + 1; omega) _
              have Htl := Lib.hid (P.tail_any Hs.out HD.out (fun h => by cases h) Hr5.out Hr6.out Hr7.out)
              have hEd : EdAt (((w7.setCell ⟨w.heap.size + 1 + 1, 2, none⟩ (.int .u64 (x : Int))).setCell ⟨w.heap.size + 1 + 1, 3, none⟩ (.int .u64 (y : Int))).setCell ⟨w.heap.size + 1 + 1, 4, none⟩ (.int .u64 (z : Int))) a1 a2 ⟨l, d, x, y, z⟩ := ⟨hT9.at tabCells_len, NumsAt.of (hN9.at numCells_len)⟩
              have HO9T := Lib.hid hT9
              have HO9N := Lib.hid hN9
              have HC := Lib.hid (fun (r : Int) (hr : (P.chkE ⟨l, d, x, y, z⟩ : Int) = r) wx (hx : Below (((w7.setCell ⟨w.heap.size + 1 + 1, 2, none⟩ (.int .u64 (x : Int))).setCell ⟨w.heap.size + 1 + 1, 3, none⟩ (.int .u64 (y : Int))).setCell ⟨w.heap.size + 1 + 1, 4, none⟩ (.int .u64 (z : Int))).heap.size (((w7.setCell ⟨w.heap.size + 1 + 1, 2, none⟩ (.int .u64 (x : Int))).setCell ⟨w.heap.size + 1 + 1, 3, none⟩ (.int .u64 (y : Int))).setCell ⟨w.heap.size + 1 + 1, 4, none⟩ (.int .u64 (z : Int))) wx) => check_any ⟨l, d, x, y, z⟩ a1 a2 ln c1 dn c2 Hln.out.symm Hdn.out.symm wx (by have := Hln.out; show l.length ≤ _; omega) (by have := Hdn.out; show d.length ≤ _; omega) (hEd.up hx) x y z r hr)
              clear hEd hT9 hN9 hownT hownN hx1 hx0 hx2 hd5 hd6 hd7 hd57 hz5 hz6 hb
              obtain ⟨p0', p1', _, _⟩ := hz9.two
              obtain ⟨e0, e1, e2, e3, e4⟩ := hx29.five
              obtain ⟨f0, f1, f2, f3, f4⟩ := hx09.five
              have ff0 := hx09.frozen 0
              have ff1 := hx09.frozen 1
              have ff2 := hx09.frozen 2
              have ff3 := hx09.frozen 3
              have ff4 := hx09.frozen 4
              generalize hgw : (((w7.setCell ⟨w.heap.size + 1 + 1, 2, none⟩ (.int .u64 (x : Int))).setCell ⟨w.heap.size + 1 + 1, 3, none⟩ (.int .u64 (y : Int))).setCell ⟨w.heap.size + 1 + 1, 4, none⟩ (.int .u64 (z : Int))) = w9 at *
              cases b7 with
              | true =>
                have Hn := Lib.hid (show P.decE s = none by rw [Htl.out, if_neg (by simp)])
                go_wp2_with fail
                obtain ⟨q0, q1, q2, q3, q4⟩ := (hx09.set5 (.slice none 0 0) (.slice none 0 0) (.int .u64 0) (.int .u64 0) (.int .u64 0)).five
                exact bodyPost_ret (v := noEd) (by simp [results, Try.results14, go_sem, q0, q1, q2, q3, q4]) rfl ⟨by rw [Hn.out]; exact rfl, below_set5 (hb9) (Nat.le_refl _) _ _ _ _ _⟩
              | false =>
                by_cases hr7 : r7 = []
                · subst hr7
                  cases hmay : P.mayB ⟨l, d, x, y, z⟩ with
                  | true =>
                    have Hn := Lib.hid (show P.decE s = some ⟨l, d, x, y, z⟩ by rw [Htl.out, if_pos ⟨rfl, rfl, hmay⟩])
                    have HC0 := Lib.hid (HC.out 0 (by unfold P.chkE; rw [hmay]; rfl))
                    clear HC hmay Htl
                    go_wp2_with (go_at_call 13; (with_reducible refine (HC0.out _ (Below.refl _ _)).mono ?_); rintro e w10 ⟨rfl, hb10⟩; have hx0a := hx09.up hb10; have hx2a := hx29.up hb10; obtain ⟨i0, i1, i2, i3, i4⟩ := hx2a.five; obtain ⟨j0, j1, j2, j3, j4⟩ := hx0a.five; have jf0 := hx0a.frozen 0; have jf1 := hx0a.frozen 1; have jf2 := hx0a.frozen 2; have jf3 := hx0a.frozen 3; have jf4 := hx0a.frozen 4)
                    obtain ⟨q0, q1, q2, q3, q4⟩ := (hx0a.set5 (.slice a1 ln c1) (.slice a2 dn c2) (.int .u64 (x : Int)) (.int .u64 (y : Int)) (.int .u64 (z : Int))).five
                    have hOT := ((((((HO9T.out.up hb10).other (show w.heap.size < w.heap.size + 1 + 1 + 1 by omega) 0 (.slice a1 ln c1)).other (show w.heap.size < w.heap.size + 1 + 1 + 1 by omega) 1 (.slice a2 dn c2)).other (show w.heap.size < w.heap.size + 1 + 1 + 1 by omega) 2 (.int .u64 (x : Int))).other (show w.heap.size < w.heap.size + 1 + 1 + 1 by omega) 3 (.int .u64 (y : Int))).other (show w.heap.size < w.heap.size + 1 + 1 + 1 by omega) 4 (.int .u64 (z : Int))).at tabCells_len
                    have hON := ((((((HO9N.out.up hb10).other (show w.heap.size < w.heap.size + 1 + 1 + 1 by omega) 0 (.slice a1 ln c1)).other (show w.heap.size < w.heap.size + 1 + 1 + 1 by omega) 1 (.slice a2 dn c2)).other (show w.heap.size < w.heap.size + 1 + 1 + 1 by omega) 2 (.int .u64 (x : Int))).other (show w.heap.size < w.heap.size + 1 + 1 + 1 by omega) 3 (.int .u64 (y : Int))).other (show w.heap.size < w.heap.size + 1 + 1 + 1 by omega) 4 (.int .u64 (z : Int))).at numCells_len
                    exact bodyPost_ret (v := .tuple #[edV a1 ln c1 a2 dn c2 x y z, .bool true]) (by simp [results, Try.results14, go_sem, q0, q1, q2, q3, q4]) rfl ⟨by rw [Hn.out]; exact ⟨a1, c1, a2, c2, by simp only [Hln.out, Hdn.out], hOT, NumsAt.of hON⟩, below_set5 (Chain.up hb9 hb10) (Nat.le_refl _) _ _ _ _ _⟩
                  | false =>
                    have Hn := Lib.hid (show P.decE s = none by rw [Htl.out, if_neg (fun h => by rw [hmay] at h; cases h.2.2)])
                    have HC1 := Lib.hid (HC.out 1 (by unfold P.chkE; rw [hmay]; rfl))
                    clear HC hmay Htl
                    go_wp2_with (go_at_call 13; (with_reducible refine (HC1.out _ (Below.refl _ _)).mono ?_); rintro e w10 ⟨rfl, hb10⟩; have hx0a := hx09.up hb10; have hx2a := hx29.up hb10; obtain ⟨i0, i1, i2, i3, i4⟩ := hx2a.five; obtain ⟨j0, j1, j2, j3, j4⟩ := hx0a.five; have jf0 := hx0a.frozen 0; have jf1 := hx0a.frozen 1; have jf2 := hx0a.frozen 2; have jf3 := hx0a.frozen 3; have jf4 := hx0a.frozen 4)
                    obtain ⟨q0, q1, q2, q3, q4⟩ := (hx0a.set5 (.slice none 0 0) (.slice none 0 0) (.int .u64 0) (.int .u64 0) (.int .u64 0)).five
                    exact bodyPost_ret (v := noEd) (by simp [results, Try.results14, go_sem, q0, q1, q2, q3, q4]) rfl ⟨by rw [Hn.out]; exact rfl, below_set5 (Chain.up hb9 hb10) (Nat.le_refl _) _ _ _ _ _⟩
                · have Hn := Lib.hid (show P.decE s = none by rw [Htl.out, if_neg (fun h => hr7 h.2.1)])
                  have hr1 : (r7 == []) = false := beq_eq_false_iff_ne.2 hr7
                  have hr2 : (r7 != []) = true := by rw [bne, hr1]; rfl
                  clear hr7 Htl HC
                  go_wp2_with fail
                  obtain ⟨q0, q1, q2, q3, q4⟩ := (hx09.set5 (.slice none 0 0) (.slice none 0 0) (.int .u64 0) (.int .u64 0) (.int .u64 0)).five
                  exact bodyPost_ret (v := noEd) (by simp [results, Try.results14, go_sem, q0, q1, q2, q3, q4]) rfl ⟨by rw [Hn.out]; exact rfl, below_set5 (hb9) (Nat.le_refl _) _ _ _ _ _⟩
      · have hbt : bad = true := by
          cases bad with
          | true => rfl
          | false => exact absurd ⟨rfl, hpos⟩ hgo
        subst hbt
        have hposi : (0 : Int) < (n' : Int) := by omega
        clear hgo hpos hex
        obtain ⟨p0, p1, _, _⟩ := hx1.two
        go_wp2_with (go_at_call 34; (with_reducible refine (number_ex (w.heap.size + 1) st _ 18446744073709551615 18446744073709551615 rfl _ ?hs hx1).mono ?_); (case hs => omega); rintro e w2 ⟨m, s3, b3, Hr3, rfl, hz1, hd1, hk1⟩)
        have hz0 := hx0.but hd1 (by omega)
        have hz2 := hx2.but hd1 (by omega)
        have hownT := hown.but hx1 (by decide) hd1
        have hszT := Nat.le_trans hsz hd1.size
        have hbT := hb.trans (hd1.below (Nat.le_succ _) hb.size)
        have HD := Lib.hid (P.loopD_start HT.out (fun h => by cases h) Hr3.out hk1)
        have Hm64 := Lib.hid (show P.small64 m by have h := congrArg Prod.fst Hr3.out; have h2 := P.rdS_le 18446744073709551615 st true; simp only at h; rw [h]; exact h2)
        clear hx1 hx0 hx2 hown hsz hb hd1 p0 p1 HT
        go_loopw [8] (fun z wr => ∃ (m' : Nat) (d : List Nat) (u2 : Value) (r : List UInt8) (bad2 : Bool), z = V64 m' ∧ P.small64 m' ∧ P.LoopD s s1 n l st m s3 d r bad2 m' ∧ RdBx wr (w.heap.size + 1) r bad2 ∧ Bx wr w.heap.size 29 #[.slice none 0 0, .slice none 0 0, .int .u64 0, .int .u64 0, .int .u64 0] ∧ Bx wr (w.heap.size + 1 + 1) 29 #[u, u2, .int .u64 0, .int .u64 0, .int .u64 0] ∧
            OwnTabs wr (w.heap.size + 1 + 1 + 1) u l ∧ OwnNums wr (w.heap.size + 1 + 1 + 1) u2 d ∧ w.heap.size + 1 + 1 + 1 ≤ wr.heap.size ∧ Below w.heap.size w wr) (fun z _ => (intOf z).toNat)
        case atStart => exact ⟨m, [], _, s3, b3, rfl, Hm64.out, HD.out, hz1, hz0, hz2, hownT, ownR_nil _ _, hszT, hbT⟩
        case round =>
          clear hz1 hz0 hz2 hownT hszT hbT HD Hm64
          obtain ⟨m', d, u2, r, bad2, rfl, hm64, HD, hx1, hx0, hx2, hownT, hownN, hsz, hb⟩ := hrel
          have HD := Lib.hid HD
          have Hm64 := Lib.hid hm64
          clear hm64
          have hrl : r.length ≤ 90000 := by have := HD.out.2.2.1; have := Hs.out; omega
          have hdl : d.length < 100000 := by have := HD.out.2.2.2; omega
          obtain ⟨p0, p1, _, _⟩ := hx1.two
          by_cases hgo2 : bad2 = false ∧ 0 < m'
          · obtain ⟨rfl, hm0⟩ := hgo2
            obtain ⟨j, rfl⟩ : ∃ j, m' = j + 1 := ⟨m' - 1, by omega⟩
            have hpos2 : (0 : Int) < ((j + 1 : Nat) : Int) := by omega
            have hwm2 := P.small64_wrap Hm64.out
            clear hm0
            obtain ⟨y0, y1, y2, y3, y4⟩ := hx2.five
            have hx1d : RdBx wr.drew (w.heap.size + 1) r false := hx1
            have hx2d : Bx wr.drew (w.heap.size + 1 + 1) 29 #[u, u2, .int .u64 0, .int .u64 0, .int .u64 0] := hx2
            have hownNd : OwnNums wr.drew (w.heap.size + 1 + 1 + 1) u2 d := hownN
            have hownTd : OwnTabs wr.drew (w.heap.size + 1 + 1 + 1) u l := hownT
            have hx0d : Bx wr.drew w.heap.size 29 #[.slice none 0 0, .slice none 0 0, .int .u64 0, .int .u64 0, .int .u64 0] := hx0
            have hszd : w.heap.size + 1 + 1 + 1 ≤ wr.drew.heap.size := hsz
            have hbd := hb.drew
            go_wp2
            go_region_law (first
              | (go_simp; go_at_call 34; (with_reducible refine (number_ex (w.heap.size + 1) r false 18446744073709551615 18446744073709551615 rfl _ ?hs hx1d).mono ?_); (case hs => omega); rintro e w5 ⟨x, r5, b5, Hr5, rfl, hz1, hd5, hk5⟩; have hz2 := hx2d.but hd5 (by omega); obtain ⟨k0, k1, k2, k3, k4⟩ := hz2.five; have k1a := cell_up ((Below.refl w5.heap.size w5).alloc (Nat.le_refl _) (.cells #[V64 x] 27)) k1; have hz0 := hx0d.but hd5 (by omega); have hN5 := hownNd.but hx1d (by decide) hd5; have hT5 := hownTd.but hx1d (by decide) hd5; have hs5 := Nat.le_trans hszd hd5.size; have hb5 := hbd.trans (hd5.below (Nat.le_succ _) hbd.size))
              | (refine step_pushNum (by rfl) _ _ (by rfl) (w.heap.size + 1 + 1 + 1) _ d x (by rfl) (OwnR.alloc hN5 _) hdl w5.heap.size _ (0, 0) (heap_alloc_new w5 _) (by rfl) (by rfl) (Nat.le_trans hs5 ((Below.refl w5.heap.size w5).alloc (Nat.le_refl _) (.cells #[V64 x] 27)).size) ?_; intro v' w7 hown7 hb7 hkt7; obtain ⟨ad, cc, hv', _, _⟩ := hown7.is numCells_len; (subst hv'); have ha := (Below.refl w5.heap.size w5).alloc (Nat.le_refl _) (.cells #[V64 x] 27); have hz0a := (hz0.up ha).below hb7 (by omega); have hz1a := (hz1.up ha).below hb7 (by omega); have hz2a := (hz2.up ha).below hb7 (by omega); have hs7 := Nat.le_trans (Nat.le_trans hs5 ha.size) hb7.size; have hb7b := (Chain.up hb5 ha).trans (hb7.mono (by omega)); have hT7 := (OwnR.alloc hT5 (.cells #[V64 x] 27)).keptT hkt7 (by decide); obtain ⟨g0, g1, g2, g3, g4⟩ := hz2a.five; have gf := hz2a.frozen 1))
            all_goals (go_wp2; go_roundw; (case rel => exact ⟨j, d ++ [x], .slice ad (d ++ [x]).length cc, r5, b5, by go_num, P.small64_le Hm64.out, P.loopD_next Hs.out HD.out Hr5.out hk5, hz1a.other (by omega) 1 _, hz0a.other (by omega) 1 _, by simpa using hz2a.set 1 (.slice ad (d ++ [x]).length cc), hT7.other (by omega) 1 _, hown7.other (by omega) 1 _, Nat.le_trans hs7 ((Below.refl w.heap.size w7).setCell (p := ⟨w.heap.size + 1 + 1, 1, none⟩) (by show w.heap.size ≤ w.heap.size + 1 + 1; omega) _).size, hb7b.setCell (p := ⟨w.heap.size + 1 + 1, 1, none⟩) (by show w.heap.size ≤ w.heap.size + 1 + 1; omega) _⟩); (case measure => simp [intOf]))
          · rcases Nat.eq_zero_or_pos m' with rfl | hpos2
            · clear hgo2
              obtain ⟨a1, c1, hu, _, _⟩ := hownT.is tabCells_len
              subst hu
              obtain ⟨a2, c2, hu, _, _⟩ := hownN.is numCells_len
              subst hu
              generalize hln : l.length = ln at *
              generalize hdn : d.length = dn at *
              have Hln := Lib.hid hln
              have Hdn := Lib.hid hdn
              clear hln hdn
              go_wp2_with (first
                | (go_at_call 34; (with_reducible refine (number_ex (w.heap.size + 1) r _ 18446744073709551615 18446744073709551615 rfl _ ?hs hx1).mono ?_); (case hs => omega); rintro e w5 ⟨x, r5, b5, Hr5, rfl, hz5, hd5, hk5⟩)
                | (go_at_call 34; (with_reducible refine (number_ex (w.heap.size + 1) r5 b5 18446744073709551615 18446744073709551615 rfl _ ?hs2 hz5).mono ?_); (case hs2 => omega); rintro e w6 ⟨y, r6, b6, Hr6, rfl, hz6, hd6, hk6⟩))
              go_at_call 34
              (with_reducible refine (number_ex (w.heap.size + 1) r6 b6 18446744073709551615 18446744073709551615 rfl _ ?hs3 hz6).mono ?_)
              case hs3 => omega
              rintro e w7 ⟨z, r7, b7, Hr7, rfl, hz7, hd7, hk7⟩
              have hd57 := (hd5.trans hd6).trans hd7
              have hx27 := hx2.but hd57 (by omega)
              have zf2 := hx27.frozen 2
              have zf3 := hx27.frozen 3
              have zf4 := hx27.frozen 4
              obtain ⟨v0, v1, v2, v3, v4⟩ := hx27.five
              have hz9 : RdBx (((w7.setCell ⟨w.heap.size + 1 + 1, 2, none⟩ (.int .u64 (x : Int))).setCell ⟨w.heap.size + 1 + 1, 3, none⟩ (.int .u64 (y : Int))).setCell ⟨w.heap.size + 1 + 1, 4, none⟩ (.int .u64 (z : Int))) (w.heap.size + 1) r7 b7 := ((hz7.other (by omega) 2 _).other (by omega) 3 _).other (by omega) 4 _
              have hx29 : Bx (((w7.setCell ⟨w.heap.size + 1 + 1, 2, none⟩ (.int .u64 (x : Int))).setCell ⟨w.heap.size + 1 + 1, 3, none⟩ (.int .u64 (y : Int))).setCell ⟨w.heap.size + 1 + 1, 4, none⟩ (.int .u64 (z : Int))) (w.heap.size + 1 + 1) 29 #[.slice a1 ln c1, .slice a2 dn c2, .int .u64 (x : Int), .int .u64 (y : Int), .int .u64 (z : Int)] := ((hx27.set 2 _).set 3 _).set 4 _
              have hx09 := (((hx0.but hd57 (by omega)).other (show w.heap.size + 1 + 1 ≠ w.heap.size by omega) 2 (.int .u64 (x : Int))).other (show w.heap.size + 1 + 1 ≠ w.heap.size by omega) 3 (.int .u64 (y : Int))).other (show w.heap.size + 1 + 1 ≠ w.heap.size by omega) 4 (.int .u64 (z : Int))
              have hT9 := ((((hownT.but hx1 (by decide) hd57).other (show w.heap.size + 1 + 1 < w.heap.size + 1 + 1 + 1 by omega) 2 (.int .u64 (x : Int))).other (show w.heap.size + 1 + 1 < w.heap.size + 1 + 1 + 1 by omega) 3 (.int .u64 (y : Int))).other (show w.heap.size + 1 + 1 < w.heap.size + 1 + 1 + 1 by omega) 4 (.int .u64 (z : Int)))
              have hN9 := ((((hownN.but hx1 (by decide) hd57).other (show w.heap.size + 1 + 1 < w.heap.size + 1 + 1 + 1 by omega) 2 (.int .u64 (x : Int))).other (show w.heap.size + 1 + 1 < w.heap.size + 1 + 1 + 1 by omega) 3 (.int .u64 (y : Int))).other (show w.heap.size + 1 + 1 < w.heap.size + 1 + 1 + 1 by omega) 4 (.int .u64 (z : Int)))
              have hb9 : Below w.heap.size w (((w7.setCell ⟨w.heap.size + 1 + 1, 2, none⟩ (.int .u64 (x : Int))).setCell ⟨w.heap.size + 1 + 1, 3, none⟩ (.int .u64 (y : Int))).setCell ⟨w.heap.size + 1 + 1, 4, none⟩ (.int .u64 (z : Int))) := (((hb.trans (hd57.below (Nat.le_succ _) hb.size)).setCell (p := ⟨w.heap.size + 1 + 1, 2, none⟩) (by show w.heap.size ≤ w.heap.size + 1 + 1; omega) _).setCell (p := ⟨w.heap.size + 1 + 1, 3, none⟩) (by show w.heap.size ≤ w.heap.size + 1 + 1; omega) _).setCell (p := ⟨w.heap.size + 1 + 1, 4, none⟩) (by show w.heap.size ≤ w.heap.size + 1 + 1; omega) _
              have Htl := Lib.hid (P.tail_any Hs.out HD.out (fun _ => rfl) Hr5.out Hr6.out Hr7.out)
              have hEd : EdAt (((w7.setCell ⟨w.heap.size + 1 + 1, 2, none⟩ (.int .u64 (x : Int))).setCell ⟨w.heap.size + 1 + 1, 3, none⟩ (.int .u64 (y : Int))).setCell ⟨w.heap.size + 1 + 1, 4, none⟩ (.int .u64 (z : Int))) a1 a2 ⟨l, d, x, y, z⟩ := ⟨hT9.at tabCells_len, NumsAt.of (hN9.at numCells_len)⟩
              have HO9T := Lib.hid hT9
              have HO9N := Lib.hid hN9
              have HC := Lib.hid (fun (r : Int) (hr : (P.chkE ⟨l, d, x, y, z⟩ : Int) = r) wx (hx : Below (((w7.setCell ⟨w.heap.size + 1 + 1, 2, none⟩ (.int .u64 (x : Int))).setCell ⟨w.heap.size + 1 + 1, 3, none⟩ (.int .u64 (y : Int))).setCell ⟨w.heap.size + 1 + 1, 4, none⟩ (.int .u64 (z : Int))).heap.size (((w7.setCell ⟨w.heap.size + 1 + 1, 2, none⟩ (.int .u64 (x : Int))).setCell ⟨w.heap.size + 1 + 1, 3, none⟩ (.int .u64 (y : Int))).setCell ⟨w.heap.size + 1 + 1, 4, none⟩ (.int .u64 (z : Int))) wx) => check_any ⟨l, d, x, y, z⟩ a1 a2 ln c1 dn c2 Hln.out.symm Hdn.out.symm wx (by have := Hln.out; show l.length ≤ _; omega) (by have := Hdn.out; show d.length ≤ _; omega) (hEd.up hx) x y z r hr)
              clear hEd hT9 hN9 hownT hownN hx1 hx0 hx2 hd5 hd6 hd7 hd57 hz5 hz6 hb
              obtain ⟨p0', p1', _, _⟩ := hz9.two
              obtain ⟨e0, e1, e2, e3, e4⟩ := hx29.five
              obtain ⟨f0, f1, f2, f3, f4⟩ := hx09.five
              have ff0 := hx09.frozen 0
              have ff1 := hx09.frozen 1
              have ff2 := hx09.frozen 2
              have ff3 := hx09.frozen 3
              have ff4 := hx09.frozen 4
              generalize hgw : (((w7.setCell ⟨w.heap.size + 1 + 1, 2, none⟩ (.int .u64 (x : Int))).setCell ⟨w.heap.size + 1 + 1, 3, none⟩ (.int .u64 (y : Int))).setCell ⟨w.heap.size + 1 + 1, 4, none⟩ (.int .u64 (z : Int))) = w9 at *
              cases b7 with
              | true =>
                have Hn := Lib.hid (show P.decE s = none by rw [Htl.out, if_neg (by simp)])
                go_wp2_with fail
                obtain ⟨q0, q1, q2, q3, q4⟩ := (hx09.set5 (.slice none 0 0) (.slice none 0 0) (.int .u64 0) (.int .u64 0) (.int .u64 0)).five
                exact bodyPost_ret (v := noEd) (by simp [results, Try.results14, go_sem, q0, q1, q2, q3, q4]) rfl ⟨by rw [Hn.out]; exact rfl, below_set5 (hb9) (Nat.le_refl _) _ _ _ _ _⟩
              | false =>
                by_cases hr7 : r7 = []
                · subst hr7
                  cases hmay : P.mayB ⟨l, d, x, y, z⟩ with
                  | true =>
                    have Hn := Lib.hid (show P.decE s = some ⟨l, d, x, y, z⟩ by rw [Htl.out, if_pos ⟨rfl, rfl, hmay⟩])
                    have HC0 := Lib.hid (HC.out 0 (by unfold P.chkE; rw [hmay]; rfl))
                    clear HC hmay Htl
                    go_wp2_with (go_at_call 13; (with_reducible refine (HC0.out _ (Below.refl _ _)).mono ?_); rintro e w10 ⟨rfl, hb10⟩; have hx0a := hx09.up hb10; have hx2a := hx29.up hb10; obtain ⟨i0, i1, i2, i3, i4⟩ := hx2a.five; obtain ⟨j0, j1, j2, j3, j4⟩ := hx0a.five; have jf0 := hx0a.frozen 0; have jf1 := hx0a.frozen 1; have jf2 := hx0a.frozen 2; have jf3 := hx0a.frozen 3; have jf4 := hx0a.frozen 4)
                    obtain ⟨q0, q1, q2, q3, q4⟩ := (hx0a.set5 (.slice a1 ln c1) (.slice a2 dn c2) (.int .u64 (x : Int)) (.int .u64 (y : Int)) (.int .u64 (z : Int))).five
                    have hOT := ((((((HO9T.out.up hb10).other (show w.heap.size < w.heap.size + 1 + 1 + 1 by omega) 0 (.slice a1 ln c1)).other (show w.heap.size < w.heap.size + 1 + 1 + 1 by omega) 1 (.slice a2 dn c2)).other (show w.heap.size < w.heap.size + 1 + 1 + 1 by omega) 2 (.int .u64 (x : Int))).other (show w.heap.size < w.heap.size + 1 + 1 + 1 by omega) 3 (.int .u64 (y : Int))).other (show w.heap.size < w.heap.size + 1 + 1 + 1 by omega) 4 (.int .u64 (z : Int))).at tabCells_len
                    have hON := ((((((HO9N.out.up hb10).other (show w.heap.size < w.heap.size + 1 + 1 + 1 by omega) 0 (.slice a1 ln c1)).other (show w.heap.size < w.heap.size + 1 + 1 + 1 by omega) 1 (.slice a2 dn c2)).other (show w.heap.size < w.heap.size + 1 + 1 + 1 by omega) 2 (.int .u64 (x : Int))).other (show w.heap.size < w.heap.size + 1 + 1 + 1 by omega) 3 (.int .u64 (y : Int))).other (show w.heap.size < w.heap.size + 1 + 1 + 1 by omega) 4 (.int .u64 (z : Int))).at numCells_len
                    exact bodyPost_ret (v := .tuple #[edV a1 ln c1 a2 dn c2 x y z, .bool true]) (by simp [results, Try.results14, go_sem, q0, q1, q2, q3, q4]) rfl ⟨by rw [Hn.out]; exact ⟨a1, c1, a2, c2, by simp only [Hln.out, Hdn.out], hOT, NumsAt.of hON⟩, below_set5 (Chain.up hb9 hb10) (Nat.le_refl _) _ _ _ _ _⟩
                  | false =>
                    have Hn := Lib.hid (show P.decE s = none by rw [Htl.out, if_neg (fun h => by rw [hmay] at h; cases h.2.2)])
                    have HC1 := Lib.hid (HC.out 1 (by unfold P.chkE; rw [hmay]; rfl))
                    clear HC hmay Htl
                    go_wp2_with (go_at_call 13; (with_reducible refine (HC1.out _ (Below.refl _ _)).mono ?_); rintro e w10 ⟨rfl, hb10⟩; have hx0a := hx09.up hb10; have hx2a := hx29.up hb10; obtain ⟨i0, i1, i2, i3, i4⟩ := hx2a.five; obtain ⟨j0, j1, j2, j3, j4⟩ := hx0a.five; have jf0 := hx0a.frozen 0; have jf1 := hx0a.frozen 1; have jf2 := hx0a.frozen 2; have jf3 := hx0a.frozen 3; have jf4 := hx0a.frozen 4)
                    obtain ⟨q0, q1, q2, q3, q4⟩ := (hx0a.set5 (.slice none 0 0) (.slice none 0 0) (.int .u64 0) (.int .u64 0) (.int .u64 0)).five
                    exact bodyPost_ret (v := noEd) (by simp [results, Try.results14, go_sem, q0, q1, q2, q3, q4]) rfl ⟨by rw [Hn.out]; exact rfl, below_set5 (Chain.up hb9 hb10) (Nat.le_refl _) _ _ _ _ _⟩
                · have Hn := Lib.hid (show P.decE s = none by rw [Htl.out, if_neg (fun h => hr7 h.2.1)])
                  have hr1 : (r7 == []) = false := beq_eq_false_iff_ne.2 hr7
                  have hr2 : (r7 != []) = true := by rw [bne, hr1]; rfl
                  clear hr7 Htl HC
                  go_wp2_with fail
                  obtain ⟨q0, q1, q2, q3, q4⟩ := (hx09.set5 (.slice none 0 0) (.slice none 0 0) (.int .u64 0) (.int .u64 0) (.int .u64 0)).five
                  exact bodyPost_ret (v := noEd) (by simp [results, Try.results14, go_sem, q0, q1, q2, q3, q4]) rfl ⟨by rw [Hn.out]; exact rfl, below_set5 (hb9) (Nat.le_refl _) _ _ _ _ _⟩
            · have hb2t : bad2 = true := by
                cases bad2 with
                | true => rfl
                | false => exact absurd ⟨rfl, hpos2⟩ hgo2
              subst hb2t
              have hpos2i : (0 : Int) < (m' : Int) := by omega
              clear hgo2 hpos2
              obtain ⟨a1, c1, hu, _, _⟩ := hownT.is tabCells_len
              subst hu
              obtain ⟨a2, c2, hu, _, _⟩ := hownN.is numCells_len
              subst hu
              generalize hln : l.length = ln at *
              generalize hdn : d.length = dn at *
              have Hln := Lib.hid hln
              have Hdn := Lib.hid hdn
              clear hln hdn
              go_wp2_with (first
                | (go_at_call 34; (with_reducible refine (number_ex (w.heap.size + 1) r _ 18446744073709551615 18446744073709551615 rfl _ ?hs hx1).mono ?_); (case hs => omega); rintro e w5 ⟨x, r5, b5, Hr5, rfl, hz5, hd5, hk5⟩)
                | (go_at_call 34; (with_reducible refine (number_ex (w.heap.size + 1) r5 b5 18446744073709551615 18446744073709551615 rfl _ ?hs2 hz5).mono ?_); (case hs2 => omega); rintro e w6 ⟨y, r6, b6, Hr6, rfl, hz6, hd6, hk6⟩))
              go_at_call 34
              (with_reducible refine (number_ex (w.heap.size + 1) r6 b6 18446744073709551615 18446744073709551615 rfl _ ?hs3 hz6).mono ?_)
              case hs3 => omega
              rintro e w7 ⟨z, r7, b7, Hr7, rfl, hz7, hd7, hk7⟩
              have hd57 := (hd5.trans hd6).trans hd7
              have hx27 := hx2.but hd57 (by omega)
              have zf2 := hx27.frozen 2
              have zf3 := hx27.frozen 3
              have zf4 := hx27.frozen 4
              obtain ⟨v0, v1, v2, v3, v4⟩ := hx27.five
              have hz9 : RdBx (((w7.setCell ⟨w.heap.size + 1 + 1, 2, none⟩ (.int .u64 (x : Int))).setCell ⟨w.heap.size + 1 + 1, 3, none⟩ (.int .u64 (y : Int))).setCell ⟨w.heap.size + 1 + 1, 4, none⟩ (.int .u64 (z : Int))) (w.heap.size + 1) r7 b7 := ((hz7.other (by omega) 2 _).other (by omega) 3 _).other (by omega) 4 _
              have hx29 : Bx (((w7.setCell ⟨w.heap.size + 1 + 1, 2, none⟩ (.int .u64 (x : Int))).setCell ⟨w.heap.size + 1 + 1, 3, none⟩ (.int .u64 (y : Int))).setCell ⟨w.heap.size + 1 + 1, 4, none⟩ (.int .u64 (z : Int))) (w.heap.size + 1 + 1) 29 #[.slice a1 ln c1, .slice a2 dn c2, .int .u64 (x : Int), .int .u64 (y : Int), .int .u64 (z : Int)] := ((hx27.set 2 _).set 3 _).set 4 _
              have hx09 := (((hx0.but hd57 (by omega)).other (show w.heap.size + 1 + 1 ≠ w.heap.size by omega) 2 (.int .u64 (x : Int))).other (show w.heap.size + 1 + 1 ≠ w.heap.size by omega) 3 (.int .u64 (y : Int))).other (show w.heap.size + 1 + 1 ≠ w.heap.size by omega) 4 (.int .u64 (z : Int))
              have hT9 := ((((hownT.but hx1 (by decide) hd57).other (show w.heap.size + 1 + 1 < w.heap.size + 1 + 1 + 1 by omega) 2 (.int .u64 (x : Int))).other (show w.heap.size + 1 + 1 < w.heap.size + 1 + 1 + 1 by omega) 3 (.int .u64 (y : Int))).other (show w.heap.size + 1 + 1 < w.heap.size + 1 + 1 + 1 by omega) 4 (.int .u64 (z : Int)))
              have hN9 := ((((hownN.but hx1 (by decide) hd57).other (show w.heap.size + 1 + 1 < w.heap.size + 1 + 1 + 1 by omega) 2 (.int .u64 (x : Int))).other (show w.heap.size + 1 + 1 < w.heap.size + 1 + 1 + 1 by omega) 3 (.int .u64 (y : Int))).other (show w.heap.size + 1 + 1 < w.heap.size + 1 + 1 + 1 by omega) 4 (.int .u64 (z : Int)))
              have hb9 : Below w.heap.size w (((w7.setCell ⟨w.heap.size + 1 + 1, 2, none⟩ (.int .u64 (x : Int))).setCell ⟨w.heap.size + 1 + 1, 3, none⟩ (.int .u64 (y : Int))).setCell ⟨w.heap.size + 1 + 1, 4, none⟩ (.int .u64 (z : Int))) := (((hb.trans (hd57.below (Nat.le_succ _) hb.size)).setCell (p := ⟨w.heap.size + 1 + 1, 2, none⟩) (by show w.heap.size ≤ w.heap.size + 1 + 1; omega) _).setCell (p := ⟨w.heap.size + 1 + 1, 3, none⟩) (by show w.heap.size ≤ w.heap.size + 1 + 1; omega) _).setCell (p := ⟨w.heap.size + 1 + 1, 4, none⟩) (by show w.heap.size ≤ w.heap.size + 1 + 1; omega) _
              have Htl := Lib.hid (P.tail_any Hs.out HD.out (fun h => by cases h) Hr5.out Hr6.out Hr7.out)
              have hEd : EdAt (((w7.setCell ⟨w.heap.size + 1 + 1, 2, none⟩ (.int .u64 (x : Int))).setCell ⟨w.heap.size + 1 + 1, 3, none⟩ (.int .u64 (y : Int))).setCell ⟨w.heap.size + 1 + 1, 4, none⟩ (.int .u64 (z : Int))) a1 a2 ⟨l, d, x, y, z⟩ := ⟨hT9.at tabCells_len, NumsAt.of (hN9.at numCells_len)⟩
              have HO9T := Lib.hid hT9
              have HO9N := Lib.hid hN9
              have HC := Lib.hid (fun (r : Int) (hr : (P.chkE ⟨l, d, x, y, z⟩ : Int) = r) wx (hx : Below (((w7.setCell ⟨w.heap.size + 1 + 1, 2, none⟩ (.int .u64 (x : Int))).setCell ⟨w.heap.size + 1 + 1, 3, none⟩ (.int .u64 (y : Int))).setCell ⟨w.heap.size + 1 + 1, 4, none⟩ (.int .u64 (z : Int))).heap.size (((w7.setCell ⟨w.heap.size + 1 + 1, 2, none⟩ (.int .u64 (x : Int))).setCell ⟨w.heap.size + 1 + 1, 3, none⟩ (.int .u64 (y : Int))).setCell ⟨w.heap.size + 1 + 1, 4, none⟩ (.int .u64 (z : Int))) wx) => check_any ⟨l, d, x, y, z⟩ a1 a2 ln c1 dn c2 Hln.out.symm Hdn.out.symm wx (by have := Hln.out; show l.length ≤ _; omega) (by have := Hdn.out; show d.length ≤ _; omega) (hEd.up hx) x y z r hr)
              clear hEd hT9 hN9 hownT hownN hx1 hx0 hx2 hd5 hd6 hd7 hd57 hz5 hz6 hb
              obtain ⟨p0', p1', _, _⟩ := hz9.two
              obtain ⟨e0, e1, e2, e3, e4⟩ := hx29.five
              obtain ⟨f0, f1, f2, f3, f4⟩ := hx09.five
              have ff0 := hx09.frozen 0
              have ff1 := hx09.frozen 1
              have ff2 := hx09.frozen 2
              have ff3 := hx09.frozen 3
              have ff4 := hx09.frozen 4
              generalize hgw : (((w7.setCell ⟨w.heap.size + 1 + 1, 2, none⟩ (.int .u64 (x : Int))).setCell ⟨w.heap.size + 1 + 1, 3, none⟩ (.int .u64 (y : Int))).setCell ⟨w.heap.size + 1 + 1, 4, none⟩ (.int .u64 (z : Int))) = w9 at *
              cases b7 with
              | true =>
                have Hn := Lib.hid (show P.decE s = none by rw [Htl.out, if_neg (by simp)])
                go_wp2_with fail
                obtain ⟨q0, q1, q2, q3, q4⟩ := (hx09.set5 (.slice none 0 0) (.slice none 0 0) (.int .u64 0) (.int .u64 0) (.int .u64 0)).five
                exact bodyPost_ret (v := noEd) (by simp [results, Try.results14, go_sem, q0, q1, q2, q3, q4]) rfl ⟨by rw [Hn.out]; exact rfl, below_set5 (hb9) (Nat.le_refl _) _ _ _ _ _⟩
              | false =>
                by_cases hr7 : r7 = []
                · subst hr7
                  cases hmay : P.mayB ⟨l, d, x, y, z⟩ with
                  | true =>
                    have Hn := Lib.hid (show P.decE s = some ⟨l, d, x, y, z⟩ by rw [Htl.out, if_pos ⟨rfl, rfl, hmay⟩])
                    have HC0 := Lib.hid (HC.out 0 (by unfold P.chkE; rw [hmay]; rfl))
                    clear HC hmay Htl
                    go_wp2_with (go_at_call 13; (with_reducible refine (HC0.out _ (Below.refl _ _)).mono ?_); rintro e w10 ⟨rfl, hb10⟩; have hx0a := hx09.up hb10; have hx2a := hx29.up hb10; obtain ⟨i0, i1, i2, i3, i4⟩ := hx2a.five; obtain ⟨j0, j1, j2, j3, j4⟩ := hx0a.five; have jf0 := hx0a.frozen 0; have jf1 := hx0a.frozen 1; have jf2 := hx0a.frozen 2; have jf3 := hx0a.frozen 3; have jf4 := hx0a.frozen 4)
                    obtain ⟨q0, q1, q2, q3, q4⟩ := (hx0a.set5 (.slice a1 ln c1) (.slice a2 dn c2) (.int .u64 (x : Int)) (.int .u64 (y : Int)) (.int .u64 (z : Int))).five
                    have hOT := ((((((HO9T.out.up hb10).other (show w.heap.size < w.heap.size + 1 + 1 + 1 by omega) 0 (.slice a1 ln c1)).other (show w.heap.size < w.heap.size + 1 + 1 + 1 by omega) 1 (.slice a2 dn c2)).other (show w.heap.size < w.heap.size + 1 + 1 + 1 by omega) 2 (.int .u64 (x : Int))).other (show w.heap.size < w.heap.size + 1 + 1 + 1 by omega) 3 (.int .u64 (y : Int))).other (show w.heap.size < w.heap.size + 1 + 1 + 1 by omega) 4 (.int .u64 (z : Int))).at tabCells_len
                    have hON := ((((((HO9N.out.up hb10).other (show w.heap.size < w.heap.size + 1 + 1 + 1 by omega) 0 (.slice a1 ln c1)).other (show w.heap.size < w.heap.size + 1 + 1 + 1 by omega) 1 (.slice a2 dn c2)).other (show w.heap.size < w.heap.size + 1 + 1 + 1 by omega) 2 (.int .u64 (x : Int))).other (show w.heap.size < w.heap.size + 1 + 1 + 1 by omega) 3 (.int .u64 (y : Int))).other (show w.heap.size < w.heap.size + 1 + 1 + 1 by omega) 4 (.int .u64 (z : Int))).at numCells_len
                    exact bodyPost_ret (v := .tuple #[edV a1 ln c1 a2 dn c2 x y z, .bool true]) (by simp [results, Try.results14, go_sem, q0, q1, q2, q3, q4]) rfl ⟨by rw [Hn.out]; exact ⟨a1, c1, a2, c2, by simp only [Hln.out, Hdn.out], hOT, NumsAt.of hON⟩, below_set5 (Chain.up hb9 hb10) (Nat.le_refl _) _ _ _ _ _⟩
                  | false =>
                    have Hn := Lib.hid (show P.decE s = none by rw [Htl.out, if_neg (fun h => by rw [hmay] at h; cases h.2.2)])
                    have HC1 := Lib.hid (HC.out 1 (by unfold P.chkE; rw [hmay]; rfl))
                    clear HC hmay Htl
                    go_wp2_with (go_at_call 13; (with_reducible refine (HC1.out _ (Below.refl _ _)).mono ?_); rintro e w10 ⟨rfl, hb10⟩; have hx0a := hx09.up hb10; have hx2a := hx29.up hb10; obtain ⟨i0, i1, i2, i3, i4⟩ := hx2a.five; obtain ⟨j0, j1, j2, j3, j4⟩ := hx0a.five; have jf0 := hx0a.frozen 0; have jf1 := hx0a.frozen 1; have jf2 := hx0a.frozen 2; have jf3 := hx0a.frozen 3; have jf4 := hx0a.frozen 4)
                    obtain ⟨q0, q1, q2, q3, q4⟩ := (hx0a.set5 (.slice none 0 0) (.slice none 0 0) (.int .u64 0) (.int .u64 0) (.int .u64 0)).five
                    exact bodyPost_ret (v := noEd) (by simp [results, Try.results14, go_sem, q0, q1, q2, q3, q4]) rfl ⟨by rw [Hn.out]; exact rfl, below_set5 (Chain.up hb9 hb10) (Nat.le_refl _) _ _ _ _ _⟩
                · have Hn := Lib.hid (show P.decE s = none by rw [Htl.out, if_neg (fun h => hr7 h.2.1)])
                  have hr1 : (r7 == []) = false := beq_eq_false_iff_ne.2 hr7
                  have hr2 : (r7 != []) = true := by rw [bne, hr1]; rfl
                  clear hr7 Htl HC
                  go_wp2_with fail
                  obtain ⟨q0, q1, q2, q3, q4⟩ := (hx09.set5 (.slice none 0 0) (.slice none 0 0) (.int .u64 0) (.int .u64 0) (.int .u64 0)).five
                  exact bodyPost_ret (v := noEd) (by simp [results, Try.results14, go_sem, q0, q1, q2, q3, q4]) rfl ⟨by rw [Hn.out]; exact rfl, below_set5 (hb9) (Nat.le_refl _) _ _ _ _ _⟩
end Go.Proofs.Ythpgigjplknomaa
