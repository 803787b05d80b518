/- The walk of EditJoinTells: it answers true. -/
import Derived.Test.YthpgigjplknomaaWEdList
import Derived.Test.YthpgigjplknomaaWEdGreat
import Derived.Test.YthpgigjplknomaaWRefJoin
import Derived.Test.YthpgigjplknomaaWAwakeE
namespace Go.Proofs.Ythpgigjplknomaa
open Go.RowKit
set_option linter.unusedVariables false
set_option linter.unusedSimpArgs false

/-- It is empty, or a block of its type, new enough and long enough. -/
def Bk (w : World) (B : Nat) (a : Option Addr) (n : Nat) (e : TypeId) (k : Nat) : Prop := n = 0 ∨ ∃ g cur, a = some ⟨g, 0, none⟩ ∧ B ≤ g ∧ Bx w g e cur ∧ n * k ≤ cur.size
theorem Bk.of {α : Type} {e : TypeId} {k : Nat} {cs : α → List Value} {w : World} {B : Nat} {a : Option Addr} {n c : Nat} {l : List α} (hk : ∀ x, (cs x).length = k) (h : OwnR e k cs w B (.slice a n c) l) : Bk w B a n e k := by
  obtain ⟨h1, ⟨h2, h0⟩ | ⟨g, cap, cur, h2, hB, hg, hnc, _, hcs, htake⟩⟩ := h
  · injection h2 with _ h3
    exact .inl h3
  · injection h2 with h3 h4 h5
    refine .inr ⟨g, cur, h3, hB, hg, ?_⟩
    rw [hcs, h4]
    exact Nat.mul_le_mul_right k hnc
theorem Bk.up {w w' : World} {B : Nat} {a : Option Addr} {n : Nat} {e : TypeId} {k : Nat} (h : Bk w B a n e k) (hb : Below w.heap.size w w') : Bk w' B a n e k := by
  rcases h with h | ⟨g, cur, h1, h2, h3, h4⟩
  · exact .inl h
  · exact .inr ⟨g, cur, h1, h2, h3.up hb, h4⟩
/-- Two boxes of different types are two. -/
theorem Bx.ne {w : World} {g h : Nat} {t u : TypeId} {A B : Array Value} (hx : Bx w g t A) (hy : Bx w h u B) (ht : t ≠ u) : g ≠ h := by
  rintro rfl
  unfold Bx at hx hy
  rw [hx] at hy
  injection hy with h1
  injection h1 with h2 h3
  exact ht h3
/-- A write to one block leaves a block of another type. -/
theorem Bk.other {w : World} {B : Nat} {a : Option Addr} {n : Nat} {e : TypeId} {k : Nat} (h : Bk w B a n e k) {g : Nat} {t : TypeId} {A : Array Value} (hx : Bx w g t A) (ht : t ≠ e) (i : Nat) (v : Value) : Bk (w.setCell ⟨g, i, none⟩ v) B a n e k := by
  rcases h with h | ⟨q, cur, h1, h2, h3, h4⟩
  · exact .inl h
  · exact .inr ⟨q, cur, h1, h2, h3.other (hx.ne h3 ht) i v, h4⟩
/-- A write to it. -/
theorem Bk.set {w : World} {B : Nat} {n g : Nat} {e : TypeId} {k : Nat} {cur : Array Value} (hB : B ≤ g) (hx : Bx w g e cur) (hn : n * k ≤ cur.size) (i : Nat) (v : Value) : Bk (w.setCell ⟨g, i, none⟩ v) B (some ⟨g, 0, none⟩) n e k :=
  .inr ⟨g, _, rfl, hB, hx.set i v, by simpa using hn⟩
/-- What the first loop keeps. -/
def TellsI (B : Nat) (l : List P.Ed) (k : Nat) (va vb : Value) (wr : World) : Prop :=
  ∃ ra rb : List EdR, OwnRefEds wr B va ra ∧ OwnEds wr B vb rb ∧ ra.map EdR.e = l.take k ∧ rb.map EdR.e = l.take k ∧ (∀ r ∈ ra, EdOwn wr B r) ∧ (∀ r ∈ rb, EdOwn wr B r) ∧ ∀ e ∈ l.take k, e.add.length ≤ 60 ∧ e.drop.length ≤ 60

set_option maxRecDepth 100000 in
set_option maxHeartbeats 4000000 in
theorem tells_many (a : Option Addr) (n c : Nat) (w : World) (hn : 20 < n) :
    Calls Try.prog 7 #[.slice a n c] w fun e w' => e = .returned (.bool true) ∧ Below w.heap.size w w' := by
  have hni : (20 : Int) < (n : Int) := by omega
  go_enter Try.func7, Try.ntmps7
  go_wp2_with (go_at_call 18; (with_reducible refine (awake_any _).mono ?_); rintro e1 w2 ⟨rfl, hb2⟩)
  go_ret
  exact ⟨rfl, hb2⟩

set_option maxRecDepth 100000 in
set_option maxHeartbeats 8000000 in
theorem tells_few (l : List P.Ed) (a : Option Addr) (n c : Nat) (hn : n = l.length) (w : World) (hn20 : n ≤ 20) (hl : ∀ e ∈ l, e.add.length ≤ 9223372036854775807 ∧ e.drop.length ≤ 9223372036854775807) (hp : EdsAt w a l) :
    Calls Try.prog 7 #[.slice a n c] w fun e w' => e = .returned (.bool true) ∧ Below w.heap.size w w' := by
  have HP := Lib.hid hp
  have HL := Lib.hid hl
  have Hn := Lib.hid hn
  have hni : (n : Int) ≤ 20 := by omega
  clear hp hl hn
  go_enter Try.func7, Try.ntmps7
  go_wp2_with fail
  go_loopw [5, 3, 4] (fun i va vb wr => ∃ k : Nat, k ≤ n ∧ i = .int .i64 k ∧ TellsI w.heap.size l k va vb wr ∧ Below w.heap.size w wr) (fun i va vb _ => n - (intOf i).toNat)
  case atStart => exact ⟨0, by omega, rfl, ⟨[], [], ownR_nil _ _, ownR_nil _ _, rfl, rfl, by simp, by simp, by simp⟩, Below.refl _ _⟩
  case round =>
    obtain ⟨k, hk, rfl, ⟨ra, rb, hA, hB, hra, hrb, hoa, hob, h60⟩, hb⟩ := hrel
    by_cases hlt : k < n
    · have hltl : k < l.length := by have := Hn.out; omega
      obtain ⟨bb, o, rfl, hbb, aa, ca, ab, cb, c0, c1, c2, c3, c4, hed⟩ := HP.out k hltl
      obtain ⟨hl1, hl2⟩ := HL.out _ (List.getElem_mem hltl)
      have HG := Lib.hid (fun wx (hx : Below w.heap.size w wx) => great_any l[k].add l[k].drop aa ab l[k].add.length ca l[k].drop.length cb rfl rfl wx hl1 hl2 (RowsAt.up hed.1 hx) l[k].log l[k].seq l[k].next)
      have p0 := cell_up hb c0
      have p1 := cell_up hb c1
      have p2 := cell_up hb c2
      have p3 := cell_up hb c3
      have p4 := cell_up hb c4
      cases hgr : P.greatE l[k].add l[k].drop with
      | true =>
        rw [hgr] at HG
        clear hgr hed hl1 hl2 hA hB hra hrb hoa hob h60
        generalize l[k] = x at *
        go_wp2_with (first
          | (go_at_call 19; (with_reducible refine (HG.out _ hb).mono ?_); rintro e1 w1 ⟨rfl, hb1⟩)
          | (go_at_call 18; (with_reducible refine (awake_any _).mono ?_); rintro e1 w2 ⟨rfl, hb2⟩))
        go_ret
        exact ⟨rfl, Chain.up (Chain.up hb hb1) hb2⟩
      | false =>
        rw [hgr] at HG
        have hs60 := P.greatE_no hgr
        have HCp := Lib.hid (fun wx (hx : Below w.heap.size w wx) => show Calls Try.prog 23 #[edV aa l[k].add.length ca ab l[k].drop.length cb l[k].log l[k].seq l[k].next] wx fun e w' => ∃ a1 c1 b1 d1, e = .returned (edV a1 l[k].add.length c1 b1 l[k].drop.length d1 l[k].log l[k].seq l[k].next) ∧ EdOwn w' w.heap.size ⟨l[k], a1, c1, b1, d1⟩ ∧ Below wx.heap.size wx w' from
          (copied_row l[k] aa ab _ ca _ cb rfl rfl wx hs60.1 hs60.2.1 (hed.up hx)).mono (by
            rintro e w' ⟨⟨x', a1, c1, b1, d1⟩, rfl, hx', ho, hbx⟩
            obtain rfl : x' = l[k] := hx'
            exact ⟨a1, c1, b1, d1, rfl, ⟨ho.1.low hx.size, ho.2.low hx.size⟩, hbx⟩))
        have Hce := Lib.hid (fun a1 c1 b1 d1 => show edRCells ⟨l[k], a1, c1, b1, d1⟩ = [.slice a1 l[k].add.length c1, .slice b1 l[k].drop.length d1, V64 l[k].log, V64 l[k].seq, V64 l[k].next] from rfl)
        have Ht := Lib.hid (List.take_succ_eq_append_getElem hltl)
        have Hs := Lib.hid (show ∀ e, e = l[k] → e.add.length ≤ 60 ∧ e.drop.length ≤ 60 from fun e he => by rw [he]; exact ⟨hs60.1, hs60.2.1⟩)
        have hral : ra.length ≤ 20 := by have := congrArg List.length hra; simp at this; omega
        have hrbl : rb.length ≤ 20 := by have := congrArg List.length hrb; simp at this; omega
        have Hla := Lib.hid (show ra.length + 1 ≤ 1000000 by omega)
        have Hlb := Lib.hid (show rb.length + 1 ≤ 1000000 by omega)
        clear hgr hed hl1 hl2 hs60 hral hrbl
        have Hra := Lib.hid hra
        have Hrb := Lib.hid hrb
        have H60 := Lib.hid h60
        have Hoa := Lib.hid hoa
        have Hob := Lib.hid hob
        clear hra hrb h60 hoa hob
        generalize l[k] = x at *
        generalize x.add.length = na at *
        generalize x.drop.length = nd at *
        generalize x.log = xl at *
        generalize x.seq = xs at *
        generalize x.next = xn at *
        go_wp2_with (first
          | (go_at_call 19; (with_reducible refine (HG.out _ hb).mono ?_); rintro e1 w1 ⟨rfl, hb1⟩; have hc1 := Chain.up hb hb1; have q0 := cell_up hc1 c0; have q1 := cell_up hc1 c1; have q2 := cell_up hc1 c2; have q3 := cell_up hc1 c3; have q4 := cell_up hc1 c4)
          | (go_at_call 23; (with_reducible refine (HCp.out _ hc1).mono ?_); rintro e2 w2 ⟨a1, k1, b1, d1, rfl, ho1, hb2⟩; have hc2 := Chain.up hc1 hb2; have hz2 := Chain.up hb1 hb2)
          | (go_at_call 16; (with_reducible refine (given_any _ _ _ _ _ _ _ _ _ _).mono ?_); rintro e3 w3 ⟨rfl, hb3⟩; have hc3 := Chain.up hc2 hb3; have hz3 := Chain.up hz2 hb3; have hy3 := ho1.up hb3; have hc3a := hc3.alloc hc3.size (.cells #[.slice a1 na k1, .slice b1 nd d1, V64 xl, V64 xs, V64 xn] 38); have hz3a := hz3.alloc hz3.size (.cells #[.slice a1 na k1, .slice b1 nd d1, V64 xl, V64 xs, V64 xn] 38); have hr3 := rows_new 5 edRCells edRCells_len w3 [⟨x, a1, k1, b1, d1⟩] #[.slice a1 na k1, .slice b1 nd d1, V64 xl, V64 xs, V64 xn] 38 (by simp [Hce.out]))
          | (at_builtin; go_loud ((refine wpList_appRefEd (by rfl) _ _ (by rfl) w.heap.size _ ra [⟨x, a1, k1, b1, d1⟩] (by rfl) (hA.up hz3a) Hla.out _ _ _ (by rfl) (by rfl) hr3 hc3a.size ?_); intro va' w4 hA4 hb4 hk4; have hc4 := hc3a.trans hb4; have r0 := cell_up hc4 c0; have r1 := cell_up hc4 c1; have r2 := cell_up hc4 c2; have r3 := cell_up hc4 c3; have r4 := cell_up hc4 c4; have hB4 := (hB.up hz3a).keptT hk4 (by decide); have hy4 := (hy3.up ((Below.refl _ _).alloc (Nat.le_refl _) (.cells #[.slice a1 na k1, .slice b1 nd d1, V64 xl, V64 xs, V64 xn] 38))).kept hk4 (by decide) (by decide); have Hoa4 := Lib.hid (fun r hr => ((Hoa.out r hr).up hz3a).kept hk4 (by decide) (by decide)); have Hob4 := Lib.hid (fun r hr => ((Hob.out r hr).up hz3a).kept hk4 (by decide) (by decide))))
          | (go_at_call 23; (with_reducible refine (HCp.out _ hc4).mono ?_); rintro e5 w5 ⟨a2, k2, b2, d2, rfl, ho2, hb5⟩; have hc5 := Chain.up hc4 hb5; have hc5a := hc5.alloc hc5.size (.cells #[.slice a2 na k2, .slice b2 nd d2, V64 xl, V64 xs, V64 xn] 29); have hz5a := hb5.alloc hb5.size (.cells #[.slice a2 na k2, .slice b2 nd d2, V64 xl, V64 xs, V64 xn] 29); have hr5 := rows_new 5 edRCells edRCells_len w5 [⟨x, a2, k2, b2, d2⟩] #[.slice a2 na k2, .slice b2 nd d2, V64 xl, V64 xs, V64 xn] 29 (by simp [Hce.out]))
          | (at_builtin; go_loud ((refine wpList_appEd (by rfl) _ _ (by rfl) w.heap.size _ rb [⟨x, a2, k2, b2, d2⟩] (by rfl) (hB4.up hz5a) Hlb.out _ _ _ (by rfl) (by rfl) hr5 hc5a.size ?_); intro vb' w6 hB6 hb6 hk6; have hc6 := hc5a.trans hb6; have hA6 := (hA4.up hz5a).keptT hk6 (by decide); have hy6 := (hy4.up hz5a).kept hk6 (by decide) (by decide); have hx6 := (ho2.up ((Below.refl _ _).alloc (Nat.le_refl _) (.cells #[.slice a2 na k2, .slice b2 nd d2, V64 xl, V64 xs, V64 xn] 29))).kept hk6 (by decide) (by decide); have Hoa6 := Lib.hid (fun r hr => ((Hoa4.out r hr).up hz5a).kept hk6 (by decide) (by decide)); have Hob6 := Lib.hid (fun r hr => ((Hob4.out r hr).up hz5a).kept hk6 (by decide) (by decide)))))
        go_roundw
        case rel =>
          refine ⟨k + 1, by omega, by go_num, ⟨ra ++ [⟨x, a1, k1, b1, d1⟩], rb ++ [⟨x, a2, k2, b2, d2⟩], hA6, hB6, ?_, ?_, ?_, ?_, ?_⟩, hc6⟩
          · rw [List.map_append, Hra.out, Ht.out]; rfl
          · rw [List.map_append, Hrb.out, Ht.out]; rfl
          · intro r hr
            rcases List.mem_append.1 hr with hr | hr
            · exact Hoa6.out r hr
            · rw [List.mem_singleton.1 hr]; exact hy6
          · intro r hr
            rcases List.mem_append.1 hr with hr | hr
            · exact Hob6.out r hr
            · rw [List.mem_singleton.1 hr]; exact hx6
          · intro e he
            rw [Ht.out] at he
            rcases List.mem_append.1 he with he | he
            · exact H60.out e he
            · exact Hs.out _ (List.mem_singleton.1 he)
        case measure => simp [intOf]; omega
    · obtain rfl : k = n := by omega
      have htk : l.take k = l := List.take_of_length_le (by have := Hn.out; omega)
      rw [htk] at hra hrb h60
      clear hlt hk htk
      obtain ⟨aA, cA, hvA, hrA, _⟩ := hA.is edRCells_len
      obtain ⟨aB, cB, hvB, hrB, _⟩ := hB.is edRCells_len
      have hlA : ra.length = k := by have := congrArg List.length hra; simp at this; have := Hn.out; omega
      have hlB : rb.length = k := by have := congrArg List.length hrb; simp at this; have := Hn.out; omega
      rw [hlA] at hvA
      rw [hlB] at hvB
      subst hvA hvB
      have heA : EdsAt wr aA l := by rw [← hra]; exact edsAt_of hrA (fun r hr => (hoa r hr).at)
      have heB : EdsAt wr aB l := by rw [← hrb]; exact edsAt_of hrB (fun r hr => (hob r hr).at)
      have hfew : P.few l := ⟨by have := Hn.out; omega, h60⟩
      have HJ := Lib.hid (join_list l aB k cB Hn.out wr hfew heB)
      have hHR : ∀ wx, Below wr.heap.size wr wx → Calls Try.prog 24 #[.slice aA k cA] wx fun e w' => (∃ a c b d, e = .returned (edV a (P.joinL l).add.length c b (P.joinL l).drop.length d (P.joinL l).log (P.joinL l).seq (P.joinL l).next) ∧ EdAt w' a b (P.joinL l)) ∧ Below wx.heap.size wx w' := by
        intro wx hx
        cases l with
        | nil => obtain rfl : k = 0 := Hn.out; exact refJoin_none aA cA wx
        | cons y l' => exact refJoin_some (y :: l') aA k cA Hn.out wx hfew (by simp) (heA.up hx)
      have HR := Lib.hid hHR
      have hjl := P.joinL_len l hfew
      clear hHR hra hrb h60 hoa hob hrA hrB hA hB heA hlA hlB
      -- BEHIND
      have hlenJ := hjl
      have HSame := Lib.hid (fun (a1 a2 a3 a4 : Option Addr) (c1 c2 c3 c4 : Nat) wx h1 h2 => same_e (P.joinL l) (P.joinL l).add.length (P.joinL l).drop.length rfl rfl a1 a3 a2 a4 c1 c3 c2 c4 wx (by omega) (by omega) h1 h2)
      generalize P.joinL l = jl at *
      generalize hna : jl.add.length = na at *
      generalize hnd : jl.drop.length = nd at *
      generalize jl.log = xl at *
      generalize jl.seq = xs at *
      generalize jl.next = xn at *
      go_wp2_with (first
        | (go_at_call 17; (with_reducible refine HJ.out.mono ?_); rintro e w1 ⟨va1, va2, rfl, hT, hN, hb1⟩; obtain ⟨a1, c1, hv1, _, _⟩ := hT.is tabCells_len; obtain ⟨a2, c2, hv2, _, _⟩ := hN.is numCells_len; rw [hna] at hv1; rw [hnd] at hv2; subst hv1 hv2; have hb1a := hb1.alloc hb1.size (.cells #[.slice a1 na c1, .slice a2 nd c2, V64 xl, V64 xs, V64 xn] 29))
        | (go_at_call 24; (with_reducible refine (HR.out _ hb1a).mono ?_); rintro e w2 ⟨⟨a3, c3, a4, c4, rfl, he3⟩, hb2⟩))
      have ha1 := (Below.refl w1.heap.size w1).alloc (Nat.le_refl _) (.cells #[.slice a1 na c1, .slice a2 nd c2, V64 xl, V64 xs, V64 xn] 29)
      have ha2 := (Below.refl w2.heap.size w2).alloc (Nat.le_refl _) (.cells #[.slice a3 na c3, .slice a4 nd c4, V64 xl, V64 xs, V64 xn] 38)
      have hx6 := ((Bx.fresh w1 29 #[.slice a1 na c1, .slice a2 nd c2, V64 xl, V64 xs, V64 xn]).up hb2).up ha2
      have hx7 := Bx.fresh w2 38 #[.slice a3 na c3, .slice a4 nd c4, V64 xl, V64 xs, V64 xn]
      have hT3 := ((hT.up ha1).up hb2).up ha2
      have hN3 := ((hN.up ha1).up hb2).up ha2
      have he7 := he3.up ha2
      have hc3 := Chain.up (Chain.up hb1a hb2) ha2
      have he6 : EdAt _ a1 a2 jl := ⟨hT3.at tabCells_len, NumsAt.of (hN3.at numCells_len)⟩
      obtain ⟨x0, x1, x2, x3, x4⟩ := hx6.five
      obtain ⟨z0, z1, z2, z3, z4⟩ := hx7.five
      generalize w2.alloc (.cells #[.slice a3 na c3, .slice a4 nd c4, V64 xl, V64 xs, V64 xn] 38) = w3 at *
      have HS := Lib.hid (fun wx (hx : Below w3.heap.size w3 wx) => HSame.out a1 a2 a3 a4 c1 c2 c3 c4 wx (he6.up hx) (he7.up hx))
      clear hT hN he3 he6 he7 ha1 ha2 hlenJ
      refine wp_region_held_drew (S := fun wx => Below w3.heap.size w3 wx) (by kernel_rfl) (Below.refl _ _).drew (fun hHeld => ?_)
      refine wpAnyH_take (i := 0) (v := ?_) rfl (by kernel_rfl) (by kernel_rfl) (by kernel_rfl) (fun _ _ _ h => h) (Or.inl ⟨by rfl, ?_⟩) hHeld ?_
      rotate_left
      · intro wq hSw; have q0 := cell_up hSw x0; have q1 := cell_up hSw x1; have q2 := cell_up hSw x2; have q3 := cell_up hSw x3; have q4 := cell_up hSw x4; go_simp; (try with_reducible rfl)
      simp only [Act.put, List.getElem_toArray, List.getElem_cons_succ, List.getElem_cons_zero, List.setIfInBounds_toArray, List.set_cons_zero, List.set_cons_succ]
      refine wpAnyH_take (i := 2) (v := ?_) rfl (by kernel_rfl) (by kernel_rfl) (by kernel_rfl) (fun _ _ _ h => h) (Or.inl ⟨by rfl, ?_⟩) hHeld ?_
      rotate_left
      · intro wq hSw; have q0 := cell_up hSw z0; have q1 := cell_up hSw z1; have q2 := cell_up hSw z2; have q3 := cell_up hSw z3; have q4 := cell_up hSw z4; go_simp; (try with_reducible rfl)
      simp only [Act.put, List.getElem_toArray, List.getElem_cons_succ, List.getElem_cons_zero, List.setIfInBounds_toArray, List.set_cons_zero, List.set_cons_succ]
      refine wpAnyH_one (i := 1) (by kernel_rfl) rfl (fun K hK => ?_)
      simp only [List.getElem_toArray, List.getElem_cons_succ, List.getElem_cons_zero]
      go_simp
      (with_reducible refine (given_any _ _ _ _ _ _ _ _ _ _).mono ?_)
      rintro e w5 ⟨rfl, hb5⟩
      have hc5 := Chain.up hHeld hb5
      refine hK.out _ _ hc5 ?_
      clear hK K
      refine wpAnyH_one (i := 3) (by kernel_rfl) rfl (fun K hK => ?_)
      simp only [List.getElem_toArray, List.getElem_cons_succ, List.getElem_cons_zero]
      go_simp
      (with_reducible refine (HS.out _ hc5).mono ?_)
      rintro e w6 ⟨rfl, hb6⟩
      have hc6 := Chain.up hc5 hb6
      refine hK.out _ _ hc6 ?_
      clear hK K
      refine wpAnyH_take (i := 4) (v := ?_) rfl (by kernel_rfl) (by kernel_rfl) (by kernel_rfl) (fun _ _ _ h => h) (Or.inl ⟨by rfl, ?_⟩) hc6 ?_
      rotate_left
      · intro wq hSw; go_simp; (try with_reducible rfl)
      simp only [Act.put, List.getElem_toArray, List.getElem_cons_succ, List.getElem_cons_zero, List.setIfInBounds_toArray, List.set_cons_zero, List.set_cons_succ]
      refine wpAnyH_done (by kernel_rfl) ?_ _
      go_wp2_with fail
      have hk1 := (Bk.of tabCells_len hT3).up hc6
      have hk2 := (Bk.of numCells_len hN3).up hc6
      have hx6e := hx6.up hc6
      have hc7 := Chain.up hc3 hc6
      clear x0 x1 x2 x3 x4 z0 z1 z2 z3 z4 hT3 hN3 hx6 hx7 HS HSame
      obtain ⟨v0, hv0⟩ : ∃ v0, v0 = wr := ⟨_, rfl⟩
      subst hv0
      go_loopw [8] (fun i wx => ∃ j : Nat, j ≤ na ∧ i = .int .i64 j ∧ Bx wx w1.heap.size 29 #[.slice a1 na c1, .slice a2 nd c2, V64 xl, V64 xs, V64 xn] ∧ Bk wx v0.heap.size a1 na 31 8 ∧ Bk wx v0.heap.size a2 nd 27 1 ∧ Below v0.heap.size v0 wx) (fun i _ => na - (intOf i).toNat)
      case atStart => exact ⟨0, by omega, rfl, hx6e, hk1, hk2, hc7⟩
      case round =>
        clear hk1 hk2 hx6e
        obtain ⟨j, hj, rfl, hx6, hk1, hk2, hbj⟩ := hrel
        obtain ⟨x0, x1, x2, x3, x4⟩ := hx6.five
        by_cases hjt : j < na
        · obtain ⟨g, cur, rfl, hBg, hxg, hsz⟩ := hk1.resolve_left (by omega)
          have hf := hxg.frozen (j * 8)
          have hcl := hxg.cell (j * 8)
          rw [Array.getElem?_eq_getElem (by omega)] at hcl
          have hji : (j : Int) < (na : Int) := by omega
          go_wp2_with fail
          go_roundw
          case rel => exact ⟨j + 1, by omega, by go_num, hx6.other (hxg.ne hx6 (by decide)) _ _, Bk.set hBg hxg hsz _ _, hk2.other hxg (by decide) _ _, hbj.trans (((But.refl g _).set (j * 8) _).below hBg hbj.size)⟩
          case measure => simp [intOf]; omega
        · obtain rfl : na = j := by omega
          clear hk1
          go_wp2_with fail
          go_loopw [9] (fun i wx => ∃ q : Nat, q ≤ nd ∧ i = .int .i64 q ∧ Bx wx w1.heap.size 29 #[.slice a1 na c1, .slice a2 nd c2, V64 xl, V64 xs, V64 xn] ∧ Bk wx v0.heap.size a2 nd 27 1 ∧ Below v0.heap.size v0 wx) (fun i _ => nd - (intOf i).toNat)
          case atStart => exact ⟨0, by omega, rfl, hx6, hk2, hbj⟩
          case round =>
            clear hk2 hx6 hbj x0 x1 x2 x3 x4
            obtain ⟨q, hq, rfl, hx6, hk2, hbj⟩ := hrel
            obtain ⟨x0, x1, x2, x3, x4⟩ := hx6.five
            by_cases hqt : q < nd
            · obtain ⟨g, cur, rfl, hBg, hxg, hsz⟩ := hk2.resolve_left (by omega)
              have hf := hxg.frozen q
              have hcl := hxg.cell q
              rw [Array.getElem?_eq_getElem (by omega)] at hcl
              have hji : (q : Int) < (nd : Int) := by omega
              go_wp2_with fail
              go_roundw
              case rel => exact ⟨q + 1, by omega, by go_num, hx6.other (hxg.ne hx6 (by decide)) _ _, Bk.set hBg hxg hsz _ _, hbj.trans (((But.refl g _).set q _).below hBg hbj.size)⟩
              case measure => simp [intOf]; omega
            · obtain rfl : nd = q := by omega
              clear hk2
              go_wp2_with fail
              clear hx6 x0 x1 x2 x3 x4
              go_loopw [10] (fun i wx => ∃ q : Nat, q ≤ k ∧ i = .int .i64 q ∧ Below v0.heap.size v0 wx) (fun i _ => k - (intOf i).toNat)
              case atStart => exact ⟨0, by omega, rfl, hbj⟩
              case round =>
                obtain ⟨q, hq, rfl, hbq⟩ := hrel
                have hbw := Chain.up hb hbq
                by_cases hqt : q < k
                · have hql : q < l.length := by have := Hn.out; omega
                  obtain ⟨gb, ob, hab, hgb, e1a, e1c, e1b, e1d, m0, m1, m2, m3, m4, hm⟩ := heB q hql
                  obtain ⟨ga, oa, haa, hga, e2a, e2c, e2b, e2d, n0, n1, n2, n3, n4, hn⟩ := HP.out q hql
                  subst hab haa
                  have h60 := hfew.2 _ (List.getElem_mem hql)
                  have x0 := cell_up hbq m0
                  have x1 := cell_up hbq m1
                  have x2 := cell_up hbq m2
                  have x3 := cell_up hbq m3
                  have x4 := cell_up hbq m4
                  have z0 := cell_up hbw n0
                  have z1 := cell_up hbw n1
                  have z2 := cell_up hbw n2
                  have z3 := cell_up hbw n3
                  have z4 := cell_up hbw n4
                  have HS2 := Lib.hid (fun wx (hx : Below wr.heap.size wr wx) => same_e l[q] _ _ rfl rfl e1a e2a e1b e2b e1c e2c e1d e2d wx (by omega) (by omega) ((hm.up hbq).up hx) ((hn.up hbw).up hx))
                  have hqi : (q : Int) < (k : Int) := by omega
                  clear m0 m1 m2 m3 m4 n0 n1 n2 n3 n4 hm hn h60
                  generalize l[q].add.length = pa at *
                  generalize l[q].drop.length = pd at *
                  generalize l[q].log = pl at *
                  generalize l[q].seq = ps at *
                  generalize l[q].next = pn at *
                  go_wp2_with fail
                  refine wp_region_held_drew (S := fun wx => Below wr.heap.size wr wx) (by kernel_rfl) (Below.refl _ _).drew (fun hHeld => ?_)
                  refine wpAnyH_take (i := 0) (v := ?_) rfl (by kernel_rfl) (by kernel_rfl) (by kernel_rfl) (fun _ _ _ h => h) (Or.inl ⟨by rfl, ?_⟩) hHeld ?_
                  rotate_left
                  · intro wq hSw; go_simp; (try with_reducible rfl)
                  simp only [Act.put, List.getElem_toArray, List.getElem_cons_succ, List.getElem_cons_zero, List.setIfInBounds_toArray, List.set_cons_zero, List.set_cons_succ]
                  refine wpAnyH_take (i := 1) (v := ?_) rfl (by kernel_rfl) (by kernel_rfl) (by kernel_rfl) (fun _ _ _ h => h) (Or.inl ⟨by rfl, ?_⟩) hHeld ?_
                  rotate_left
                  · intro wq hSw; go_simp; (try with_reducible rfl)
                  simp only [Act.put, List.getElem_toArray, List.getElem_cons_succ, List.getElem_cons_zero, List.setIfInBounds_toArray, List.set_cons_zero, List.set_cons_succ]
                  refine wpAnyH_take (i := 2) (v := ?_) rfl (by kernel_rfl) (by kernel_rfl) (by kernel_rfl) (fun _ _ _ h => h) (Or.inl ⟨by rfl, ?_⟩) hHeld ?_
                  rotate_left
                  · intro wq hSw; go_simp; (try with_reducible rfl)
                  simp only [Act.put, List.getElem_toArray, List.getElem_cons_succ, List.getElem_cons_zero, List.setIfInBounds_toArray, List.set_cons_zero, List.set_cons_succ]
                  refine wpAnyH_take (i := 3) (v := ?_) rfl (by kernel_rfl) (by kernel_rfl) (by kernel_rfl) (fun _ _ _ h => h) (Or.inl ⟨by rfl, ?_⟩) hHeld ?_
                  rotate_left
                  · intro wq hSw; have q0 := cell_up hSw x0; have q1 := cell_up hSw x1; have q2 := cell_up hSw x2; have q3 := cell_up hSw x3; have q4 := cell_up hSw x4; go_simp; (try with_reducible rfl)
                  simp only [Act.put, List.getElem_toArray, List.getElem_cons_succ, List.getElem_cons_zero, List.setIfInBounds_toArray, List.set_cons_zero, List.set_cons_succ]
                  refine wpAnyH_take (i := 5) (v := ?_) rfl (by kernel_rfl) (by kernel_rfl) (by kernel_rfl) (fun _ _ _ h => h) (Or.inl ⟨by rfl, ?_⟩) hHeld ?_
                  rotate_left
                  · intro wq hSw; go_simp; (try with_reducible rfl)
                  simp only [Act.put, List.getElem_toArray, List.getElem_cons_succ, List.getElem_cons_zero, List.setIfInBounds_toArray, List.set_cons_zero, List.set_cons_succ]
                  refine wpAnyH_take (i := 6) (v := ?_) rfl (by kernel_rfl) (by kernel_rfl) (by kernel_rfl) (fun _ _ _ h => h) (Or.inl ⟨by rfl, ?_⟩) hHeld ?_
                  rotate_left
                  · intro wq hSw; go_simp; (try with_reducible rfl)
                  simp only [Act.put, List.getElem_toArray, List.getElem_cons_succ, List.getElem_cons_zero, List.setIfInBounds_toArray, List.set_cons_zero, List.set_cons_succ]
                  refine wpAnyH_take (i := 7) (v := ?_) rfl (by kernel_rfl) (by kernel_rfl) (by kernel_rfl) (fun _ _ _ h => h) (Or.inl ⟨by rfl, ?_⟩) hHeld ?_
                  rotate_left
                  · intro wq hSw; go_simp; (try with_reducible rfl)
                  simp only [Act.put, List.getElem_toArray, List.getElem_cons_succ, List.getElem_cons_zero, List.setIfInBounds_toArray, List.set_cons_zero, List.set_cons_succ]
                  refine wpAnyH_take (i := 8) (v := ?_) rfl (by kernel_rfl) (by kernel_rfl) (by kernel_rfl) (fun _ _ _ h => h) (Or.inl ⟨by rfl, ?_⟩) hHeld ?_
                  rotate_left
                  · intro wq hSw; have q0 := cell_up hSw z0; have q1 := cell_up hSw z1; have q2 := cell_up hSw z2; have q3 := cell_up hSw z3; have q4 := cell_up hSw z4; go_simp; (try with_reducible rfl)
                  simp only [Act.put, List.getElem_toArray, List.getElem_cons_succ, List.getElem_cons_zero, List.setIfInBounds_toArray, List.set_cons_zero, List.set_cons_succ]
                  refine wpAnyH_one (i := 4) (by kernel_rfl) rfl (fun K hK => ?_)
                  simp only [List.getElem_toArray, List.getElem_cons_succ, List.getElem_cons_zero]
                  go_simp
                  (with_reducible refine (given_any _ _ _ _ _ _ _ _ _ _).mono ?_)
                  rintro e w5 ⟨rfl, hb5⟩
                  have hd5 := Chain.up hHeld hb5
                  refine hK.out _ _ hd5 ?_
                  clear hK K
                  refine wpAnyH_one (i := 9) (by kernel_rfl) rfl (fun K hK => ?_)
                  simp only [List.getElem_toArray, List.getElem_cons_succ, List.getElem_cons_zero]
                  go_simp
                  (with_reducible refine (given_any _ _ _ _ _ _ _ _ _ _).mono ?_)
                  rintro e w6 ⟨rfl, hb6⟩
                  have hd6 := Chain.up hd5 hb6
                  refine hK.out _ _ hd6 ?_
                  clear hK K
                  refine wpAnyH_one (i := 10) (by kernel_rfl) rfl (fun K hK => ?_)
                  simp only [List.getElem_toArray, List.getElem_cons_succ, List.getElem_cons_zero]
                  go_simp
                  (with_reducible refine (HS2.out _ hd6).mono ?_)
                  rintro e w7 ⟨rfl, hb7⟩
                  have hd7 := Chain.up hd6 hb7
                  refine hK.out _ _ hd7 ?_
                  clear hK K
                  refine wpAnyH_take (i := 11) (v := ?_) rfl (by kernel_rfl) (by kernel_rfl) (by kernel_rfl) (fun _ _ _ h => h) (Or.inl ⟨by rfl, ?_⟩) hd7 ?_
                  rotate_left
                  · intro wq hSw; go_simp; (try with_reducible rfl)
                  simp only [Act.put, List.getElem_toArray, List.getElem_cons_succ, List.getElem_cons_zero, List.setIfInBounds_toArray, List.set_cons_zero, List.set_cons_succ]
                  refine wpAnyH_done (by kernel_rfl) ?_ _
                  go_wp2_with fail
                  go_roundw
                  case rel => exact ⟨q + 1, by omega, by go_num, Chain.up hbq hd7⟩
                  case measure => simp [intOf]; omega
                · obtain rfl : k = q := by omega
                  go_wp2_with (go_at_call 18; (with_reducible refine (awake_any _).mono ?_); rintro e1 w9 ⟨rfl, hb9⟩)
                  go_ret
                  exact ⟨rfl, Chain.up hbw hb9⟩
      -- END BEHIND
theorem law_tells (l : List P.Ed) (a : Option Addr) (n c : Nat) (w : World) (hn : l.length = n) (hl : ∀ e ∈ l, e.add.length ≤ 9223372036854775807 ∧ e.drop.length ≤ 9223372036854775807) (hp : EdsAt w a l) :
    Calls Try.prog 7 #[.slice a n c] w fun e w' => e = .returned (.bool true) ∧ Below w.heap.size w w' := by
  by_cases h : n ≤ 20
  · exact tells_few l a n c hn.symm w h hl hp
  · exact tells_many a n c w (by omega)
end Go.Proofs.Ythpgigjplknomaa
