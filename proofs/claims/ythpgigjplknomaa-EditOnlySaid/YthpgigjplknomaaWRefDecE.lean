/- The walk of the document's Decode of an edit. -/
import Derived.Test.YthpgigjplknomaaWRefTab
import Derived.Test.YthpgigjplknomaaWRefMay
import Derived.Test.YthpgigjplknomaaWRefJoin
namespace Go.Proofs.Ythpgigjplknomaa
open Go.RowKit
set_option linter.unusedVariables false
set_option linter.unusedSimpArgs false
attribute [local go_sem] str_dropN

/-- Behind so many tables. -/
def P.RefT (s s1 : List UInt8) (n : Nat) (l : List P.Tab) (a : Nat) : Prop := P.rd s = some (n, s1) ∧ P.rdTabs l.length s1 = some (l, s.drop a) ∧ l.length ≤ n ∧ a ≤ s.length ∧ l.length ≤ s.length
theorem P.refT_start {s : List UInt8} (h : P.rOk s = true) : P.RefT s (s.drop (P.rSize s)) (P.rNum s) [] (P.rSize s) :=
  ⟨P.rd_def h, rfl, by simp, (P.row_read s h).2.1, by simp⟩
theorem P.refT_next {s s1 : List UInt8} {n : Nat} {l : List P.Tab} {a : Nat} {t : P.Tab} {r : List UInt8} (h : P.RefT s s1 n l a) (hk : l.length < n) (ht : P.rdTabR (s.drop a) = some (t, r)) :
    P.RefT s s1 n (l ++ [t]) (a + ((s.drop a).length - r.length)) ∧ 1 ≤ (s.drop a).length - r.length ∧ a + ((s.drop a).length - r.length) ≤ s.length := by
  obtain ⟨h1, h2, h3, h4, h5⟩ := h
  obtain ⟨ht1, _⟩ := P.rdTabR_some ht
  obtain ⟨e1, e2⟩ := P.rdTab_drop ht1
  have hl := P.rdTab_len ht1
  have hs := P.rdTabs_snoc _ _ _ _ _ _ h2 ht1
  have hd : s.drop (a + ((s.drop a).length - r.length)) = r := by rw [← List.drop_drop]; exact e1.symm
  have hlen := P.rdTabs_len hs
  have h6 := P.rd_len h1
  rw [List.length_append, List.length_singleton] at hlen
  rw [List.length_drop] at hl ⊢
  refine ⟨⟨h1, ?_, by simp; omega, by omega, by simp; omega⟩, by omega, by omega⟩
  rw [List.length_append, List.length_singleton, ← List.length_drop, hd]
  exact hs

theorem own_cap {w : World} {B b o n c : Nat} {l : List Nat} (h : OwnNums w B (.slice (some ⟨b, o, none⟩) n c) l) : n ≤ c := by
  rcases h.2 with ⟨e, _⟩ | ⟨g, cap, cur, e, _, _, hnc, _⟩
  · cases e
  · have hl := h.1
    injection e with e1 e2 e3
    omega
theorem three_at {w : World} {B b o n cc m : Nat} {d : List Nat} {x y z : Nat} (hd : d.length = m) (h : OwnNums w B (.slice (some ⟨b, o, none⟩) n cc) (d ++ [x, y, z])) :
    w.cell? ⟨b, o + m, none⟩ = some (V64 x) ∧ w.cell? ⟨b, o + (m + 1), none⟩ = some (V64 y) ∧ w.cell? ⟨b, o + (m + 2), none⟩ = some (V64 z) ∧ NumsAt w (some ⟨b, o, none⟩) d := by
  subst hd
  have hr := NumsAt.of (h.at numCells_len)
  have f : ∀ i (hi : i < (d ++ [x, y, z]).length), w.cell? ⟨b, o + i, none⟩ = some (V64 (d ++ [x, y, z])[i]) ∧ b < w.heap.size := fun i hi => by
    obtain ⟨b', o', e, hlt, hc⟩ := hr i hi
    injection e with e
    injection e with e1 e2
    subst e1 e2
    exact ⟨hc, hlt⟩
  refine ⟨?_, ?_, ?_, fun i hi => ⟨b, o, rfl, (f i (by simp; omega)).2, ?_⟩⟩
  · have := (f d.length (by simp)).1; simpa using this
  · have := (f (d.length + 1) (by simp)).1; simpa using this
  · have := (f (d.length + 2) (by simp)).1; simpa using this
  · have := (f i (by simp; omega)).1
    rw [this, List.getElem_append_left hi]

set_option maxRecDepth 100000 in
set_option maxHeartbeats 16000000 in
theorem refDecE_any (s : List UInt8) (w : World) (hs : s.length ≤ 90000) :
    Calls Try.prog 22 #[S s] w fun e w' => DecE (P.decE s) e w' ∧ Below w.heap.size w w' := by
  have hi : (s.length : Int) ≤ 524288 := by omega
  have hx2 := Bx.fresh w 38 #[.slice none 0 0, .slice none 0 0, .int .u64 0, .int .u64 0, .int .u64 0]
  have ha := (Below.refl w.heap.size w).alloc (Nat.le_refl _) (.cells #[.slice none 0 0, .slice none 0 0, .int .u64 0, .int .u64 0, .int .u64 0] 38)
  have hx22 := hx2.up ((Below.refl _ _).alloc (Nat.le_refl _) (.cells #[.slice none 0 0, .slice none 0 0, .int .u64 0, .int .u64 0, .int .u64 0] 38))
  have hx4 := Bx.fresh (w.alloc (.cells #[.slice none 0 0, .slice none 0 0, .int .u64 0, .int .u64 0, .int .u64 0] 38)) 38 #[.slice none 0 0, .slice none 0 0, .int .u64 0, .int .u64 0, .int .u64 0]
  have hb2 := ha.alloc ha.size (.cells #[.slice none 0 0, .slice none 0 0, .int .u64 0, .int .u64 0, .int .u64 0] 38)
  rw [show (w.alloc (.cells #[.slice none 0 0, .slice none 0 0, .int .u64 0, .int .u64 0, .int .u64 0] 38)).heap.size = w.heap.size + 1 by simp] at hx4
  have hz2 : w.heap.size + 1 + 1 ≤ ((w.alloc (.cells #[.slice none 0 0, .slice none 0 0, .int .u64 0, .int .u64 0, .int .u64 0] 38)).alloc (.cells #[.slice none 0 0, .slice none 0 0, .int .u64 0, .int .u64 0, .int .u64 0] 38)).heap.size := by simp
  have HV := Lib.hid (fun wx => refReadVar_any s wx (by omega))
  have Hs := Lib.hid hs
  clear hx2
  cases hok : P.rOk s with
  | false =>
    have Hn := Lib.hid (P.ed_no1 (P.rd_bad hok))
    rw [hok] at HV
    clear hok
    generalize P.rNum s = nn at *
    generalize P.rSize s = sz at *
    go_enter Try.func22, Try.ntmps22
    go_wp2_with (go_at_call 43; (with_reducible refine (HV.out _).mono ?_); rintro e w3 ⟨rfl, hb3⟩; have hx23 := hx22.up hb3; have hb3' := Chain.up hb2 hb3; obtain ⟨p0, p1, p2, p3, p4⟩ := hx23.five; have pf0 := hx23.frozen 0; have pf1 := hx23.frozen 1; have pf2 := hx23.frozen 2; have pf3 := hx23.frozen 3; have pf4 := hx23.frozen 4)
    obtain ⟨z0, z1, z2, z3, z4⟩ := (hx23.set5 (.slice none 0 0) (.slice none 0 0) (.int .u64 0) (.int .u64 0) (.int .u64 0)).five
    exact bodyPost_ret (v := noEd) (by simp [results, Try.results22, go_sem, z0, z1, z2, z3, z4]) rfl ⟨by rw [Hn.out]; exact rfl, below_set5 hb3' (Nat.le_refl _) _ _ _ _ _⟩
  | true =>
    have HR0 := Lib.hid (P.refT_start hok)
    have Hrd := Lib.hid (P.rd_def hok)
    have hsz := (P.row_read s hok).2.1
    rw [hok] at HV
    clear hok
    generalize s.drop (P.rSize s) = s1 at *
    generalize P.rNum s = n at *
    generalize P.rSize s = a0 at *
    have hn64 : n < 18446744073709551616 := by
      have := P.rd_some Hrd.out
      exact this.2
    by_cases hbig : s.length < n
    · have Hn := Lib.hid (P.ed_many Hrd.out hbig)
      have hbi : (s.length : Int) < (n : Int) := by omega
      have hwl : IntKind.u64.wrap (s.length : Int) = (s.length : Int) := by rw [IntKind.wrap_u64]; omega
      clear hbig
      go_enter Try.func22, Try.ntmps22
      go_wp2_with (go_at_call 43; (with_reducible refine (HV.out _).mono ?_); rintro e w3 ⟨rfl, hb3⟩; have hx23 := hx22.up hb3; have hb3' := Chain.up hb2 hb3; obtain ⟨p0, p1, p2, p3, p4⟩ := hx23.five; have pf0 := hx23.frozen 0; have pf1 := hx23.frozen 1; have pf2 := hx23.frozen 2; have pf3 := hx23.frozen 3; have pf4 := hx23.frozen 4)
      obtain ⟨z0, z1, z2, z3, z4⟩ := (hx23.set5 (.slice none 0 0) (.slice none 0 0) (.int .u64 0) (.int .u64 0) (.int .u64 0)).five
      exact bodyPost_ret (v := noEd) (by simp [results, Try.results22, go_sem, z0, z1, z2, z3, z4]) rfl ⟨by rw [Hn.out]; exact rfl, below_set5 hb3' (Nat.le_refl _) _ _ _ _ _⟩
    · have hbi : (n : Int) ≤ (s.length : Int) := by omega
      have hns : n ≤ s.length := by omega
      have hwl : IntKind.u64.wrap (s.length : Int) = (s.length : Int) := by rw [IntKind.wrap_u64]; omega
      go_enter Try.func22, Try.ntmps22
      go_wp2_with (go_at_call 43; (with_reducible refine (HV.out _).mono ?_); rintro e w3 ⟨rfl, hb3⟩; have hx23 := hx22.up hb3; have hx43 := hx4.up hb3; have hb3' := Chain.up hb2 hb3; have hz3 := Nat.le_trans hz2 hb3.size; obtain ⟨p0, p1, p2, p3, p4⟩ := hx23.five; have pf0 := hx23.frozen 0; have pf1 := hx23.frozen 1; have pf2 := hx23.frozen 2; have pf3 := hx23.frozen 3; have pf4 := hx23.frozen 4)
      clear p0 p1 p2 p3 p4 pf0 pf1 pf2 pf3 pf4 hx22 hx4 hb2 hb3 hz2 HV ha hbig
      go_loopw [6] (fun i wr => ∃ (l : List P.Tab) (u : Value) (a : Nat), i = .int .i64 a ∧ P.RefT s s1 n l a ∧ Bx wr (w.heap.size + 1) 38 #[u, .slice none 0 0, .int .u64 0, .int .u64 0, .int .u64 0] ∧ OwnTabs wr (w.heap.size + 1 + 1) u l ∧ Bx wr w.heap.size 38 #[.slice none 0 0, .slice none 0 0, .int .u64 0, .int .u64 0, .int .u64 0] ∧ w.heap.size + 1 + 1 ≤ wr.heap.size ∧ Below w.heap.size w wr) (fun i _ => s.length - (intOf i).toNat)
      case atStart => exact ⟨[], _, a0, rfl, HR0.out, hx43, ownR_nil _ _, hx23, hz3, hb3'⟩
      case round =>
        clear hx43 hx23 hb3' hz3 HR0
        obtain ⟨l, u, a, rfl, hR, hx4, hown, hx2, hz, hb⟩ := hrel
        have HR := Lib.hid hR
        have hal : a ≤ s.length := hR.2.2.2.1
        have hls : l.length ≤ s.length := hR.2.2.2.2
        have hln : l.length ≤ n := hR.2.2.1
        clear hR
        have HO := Lib.hid hown
        obtain ⟨aa, ca, hva, _, _⟩ := hown.is tabCells_len
        subst hva
        clear hown
        have hwu : IntKind.u64.wrap (l.length : Int) = (l.length : Int) := by rw [IntKind.wrap_u64]; omega
        obtain ⟨p0, p1, p2, p3, p4⟩ := hx4.five
        by_cases hlt : l.length < n
        · have hlti : (l.length : Int) < (n : Int) := by omega
          have HT := Lib.hid (fun wx => table_any (s.drop a) wx (by rw [List.length_drop]; omega))
          cases ht : P.rdTabR (s.drop a) with
          | none =>
            have Hn := Lib.hid (P.ed_noR HR.out.1 HR.out.2.1 hlt ht)
            rw [ht] at HT
            clear ht
            go_wp2_with (go_at_call 44; (with_reducible refine (HT.out _).mono ?_); rintro e w4 ⟨he, hb4⟩; (obtain rfl : e = _ := he); have hb4' := (Chain.up hb hb4).alloc (Chain.up hb hb4).size (.cells #[.int .u64 0, .int .i64 0, .int .i64 0, .int .i64 0, S [], S [], .int .u64 0, .int .u64 0] 31); have hx24 := (hx2.up hb4).up ((Below.refl _ _).alloc (Nat.le_refl _) (.cells #[.int .u64 0, .int .i64 0, .int .i64 0, .int .i64 0, S [], S [], .int .u64 0, .int .u64 0] 31)); obtain ⟨q0, q1, q2, q3, q4⟩ := hx24.five; have qf0 := hx24.frozen 0; have qf1 := hx24.frozen 1; have qf2 := hx24.frozen 2; have qf3 := hx24.frozen 3; have qf4 := hx24.frozen 4)
            obtain ⟨z0, z1, z2, z3, z4⟩ := (hx24.set5 (.slice none 0 0) (.slice none 0 0) (.int .u64 0) (.int .u64 0) (.int .u64 0)).five
            exact bodyPost_ret (v := noEd) (by simp [results, Try.results22, go_sem, z0, z1, z2, z3, z4]) rfl ⟨by rw [Hn.out]; exact rfl, below_set5 hb4' (Nat.le_refl _) _ _ _ _ _⟩
          | some q =>
            obtain ⟨t, r⟩ := q
            have HR1 := Lib.hid (P.refT_next HR.out hlt ht)
            rw [ht] at HT
            clear ht
            have hllen : (s.drop a).length = s.length - a := List.length_drop
            have HT1 : Hid (∀ wx, Calls Try.prog 44 #[S (s.drop a)] wx fun e w' => e = .returned (.tuple #[tabV t, .int .i64 (((s.drop a).length - r.length : Nat) : Int)]) ∧ Below wx.heap.size wx w') := HT
            clear HT
            generalize (s.drop a).length - r.length = m at *
            obtain ⟨_, hm1, hm2⟩ := HR1.out
            have hwa : IntKind.i64.wrap ((a : Int) + (m : Int)) = (a : Int) + (m : Int) := IntWalk.i64_in _ (by omega)
            have hm0 : decide ((m : Int) < 0) = false := decide_eq_false (by omega)
            clear hllen
            obtain ⟨tn, level, count, size, first, last, least, most⟩ := t
            go_wp2_with (first
              | (go_at_call 44; (with_reducible refine (HT1.out _).mono ?_); rintro e w4 ⟨rfl, hb4⟩;
                  have ha4 := (Below.refl w4.heap.size w4).alloc (Nat.le_refl _) (.cells #[V64 tn, .int .i64 level, .int .i64 count, .int .i64 size, S first, S last, V64 least, V64 most] 31);
                  have hbt := Bx.fresh w4 31 #[V64 tn, .int .i64 level, .int .i64 count, .int .i64 size, S first, S last, V64 least, V64 most];
                  obtain ⟨⟨t0, t1, t2, t3⟩, t4, t5, t6, t7⟩ := hbt.eight; have hx44 := (hx4.up hb4).up ha4; have hx24 := (hx2.up hb4).up ha4; obtain ⟨q0, q1, q2, q3, q4⟩ := hx44.five;
                  have hO4 := OwnR.up (OwnR.up HO.out hb4) ha4; have hb4' := Chain.up (Chain.up hb hb4) ha4; have hz4 := Nat.le_trans (Nat.le_trans hz hb4.size) ha4.size;
                  have hrn := rows_new 8 tabCells tabCells_len (w4.alloc (.cells #[V64 tn, .int .i64 level, .int .i64 count, .int .i64 size, S first, S last, V64 least, V64 most] 31)) [⟨tn, level, count, size, first, last, least, most⟩] #[V64 tn, .int .i64 level, .int .i64 count, .int .i64 size, S first, S last, V64 least, V64 most] 31 (by rfl); rw [show (w4.alloc (.cells #[V64 tn, .int .i64 level, .int .i64 count, .int .i64 size, S first, S last, V64 least, V64 most] 31)).heap.size = w4.heap.size + 1 by simp] at hrn)
              | (at_builtin; (refine wpList_appTabs (by rfl) _ _ (by rfl) (w.heap.size + 1 + 1) _ l [⟨tn, level, count, size, first, last, least, most⟩] (by rfl) (OwnR.alloc hO4 _) (by simp; omega) _ _ _ (by rfl) (by rfl) hrn (Nat.le_trans hz4 (by simp)) ?_); intro v' w8 hown8 hb8 hk8; obtain ⟨ad, cc, hv', _, _⟩ := hown8.is tabCells_len; (subst hv'); have hx48 := (hx44.up ((Below.refl _ _).alloc (Nat.le_refl _) _)).below hb8 (by omega); have hx28 := (hx24.up ((Below.refl _ _).alloc (Nat.le_refl _) _)).below hb8 (by omega); obtain ⟨j0, j1, j2, j3, j4⟩ := hx48.five; have jf0 := hx48.frozen 0))
            go_roundw
            case rel =>
              simp only [List.length_append, List.length_singleton] at hown8
              have hz8 : w.heap.size + 1 + 1 ≤ w8.heap.size := Nat.le_trans hz4 (Nat.le_trans (by simp) hb8.size)
              exact ⟨l ++ [⟨tn, level, count, size, first, last, least, most⟩], .slice ad (l.length + 1) cc, a + m, by go_num, HR1.out.1, by simpa using hx48.set 0 (.slice ad (l.length + 1) cc), hown8.other (by omega) 0 _, hx28.other (by omega) 0 _, by simpa using hz8,
                ((hb4'.trans (((Below.refl _ _).alloc (Nat.le_refl _) _).mono hb4'.size)).trans (hb8.mono (by omega))).setCell (show w.heap.size ≤ w.heap.size + 1 by omega) _⟩
            case measure => simp [intOf]; omega
        · have hlm : l.length = n := by omega
          have hlti : ¬ (l.length : Int) < (n : Int) := by omega
          have Ht := Lib.hid (show P.rdTabs n s1 = some (l, s.drop a) by rw [← hlm]; exact HR.out.2.1)
          have hlb : (n : Int) ≤ (l.length : Int) := by omega
          have HV2 := Lib.hid (fun wx => refReadVar_any (s.drop a) wx (by rw [List.length_drop]; omega))
          clear HR hlt hlti
          have hln2 : l.length ≤ 90000 := by omega
          cases hok : P.rOk (s.drop a) with
          | false =>
            have Hn := Lib.hid (P.ed_no3 Hrd.out Ht.out (P.rd_bad hok))
            rw [hok] at HV2
            clear hok
            generalize P.rNum (s.drop a) = m at *
            generalize P.rSize (s.drop a) = c at *
            generalize hlg : l.length = ln at *
            have Hlg := Lib.hid hlg
            clear hlg hlm
            go_wp2_with (go_at_call 43; (with_reducible refine (HV2.out _).mono ?_); rintro e w4 ⟨rfl, hb4⟩; have hb4' := Chain.up hb hb4; have hx24 := hx2.up hb4; obtain ⟨q0, q1, q2, q3, q4⟩ := hx24.five; have qf0 := hx24.frozen 0; have qf1 := hx24.frozen 1; have qf2 := hx24.frozen 2; have qf3 := hx24.frozen 3; have qf4 := hx24.frozen 4)
            obtain ⟨z0, z1, z2, z3, z4⟩ := (hx24.set5 (.slice none 0 0) (.slice none 0 0) (.int .u64 0) (.int .u64 0) (.int .u64 0)).five
            exact bodyPost_ret (v := noEd) (by simp [results, Try.results22, go_sem, z0, z1, z2, z3, z4]) rfl ⟨by rw [Hn.out]; exact rfl, below_set5 hb4' (Nat.le_refl _) _ _ _ _ _⟩
          | true =>
            have Hrd2 := Lib.hid (P.rd_def hok)
            have hc := (P.row_read _ hok).2.1
            rw [List.length_drop] at hc
            rw [hok] at HV2
            clear hok
            generalize P.rNum (s.drop a) = m at *
            generalize P.rSize (s.drop a) = c at *
            by_cases hbig : s.length < m
            · have Hn := Lib.hid (P.ed_many2 Hrd.out Ht.out Hrd2.out hbig)
              have hbm : (s.length : Int) < (m : Int) := by omega
              clear hbig
              generalize hlg : l.length = ln at *
              have Hlg := Lib.hid hlg
              clear hlg hlm
              go_wp2_with (go_at_call 43; (with_reducible refine (HV2.out _).mono ?_); rintro e w4 ⟨rfl, hb4⟩; have hb4' := Chain.up hb hb4; have hx24 := hx2.up hb4; obtain ⟨q0, q1, q2, q3, q4⟩ := hx24.five; have qf0 := hx24.frozen 0; have qf1 := hx24.frozen 1; have qf2 := hx24.frozen 2; have qf3 := hx24.frozen 3; have qf4 := hx24.frozen 4)
              obtain ⟨z0, z1, z2, z3, z4⟩ := (hx24.set5 (.slice none 0 0) (.slice none 0 0) (.int .u64 0) (.int .u64 0) (.int .u64 0)).five
              exact bodyPost_ret (v := noEd) (by simp [results, Try.results22, go_sem, z0, z1, z2, z3, z4]) rfl ⟨by rw [Hn.out]; exact rfl, below_set5 hb4' (Nat.le_refl _) _ _ _ _ _⟩
            · have hbm : (m : Int) ≤ (s.length : Int) := by omega
              have hms : m ≤ 90000 := by omega
              clear hbig
              rw [List.drop_drop] at Hrd2
              have hL := P.ed_last (by omega) Hrd.out Ht.out Hrd2.out
              have HL0 := Lib.hid hL.1
              have HL1 := Lib.hid hL.2
              clear hL
              have HN := Lib.hid (fun wx => numbers_any (s.drop (a + c)) (m + 3) ((m : Int) + 3) (by omega) wx (by rw [List.length_drop]; omega) (by omega))
              have hwa : IntKind.i64.wrap ((a : Int) + (c : Int)) = ((a + c : Nat) : Int) := by rw [IntWalk.i64_in _ (by omega)]; omega
              have hwm : IntKind.i64.wrap (m : Int) = (m : Int) := IntWalk.i64_in _ (by omega)
              have hwm3 : IntKind.i64.wrap ((m : Int) + 3) = (m : Int) + 3 := IntWalk.i64_in _ (by omega)
              have hac : a + c ≤ s.length := by omega
              have Hlm := Lib.hid hlm
              clear hlm
              cases hk : P.rdNums (m + 3) (s.drop (a + c)) with
              | none =>
                have Hn := Lib.hid (HL0.out hk)
                have e1 : P.nz (m + 3) (s.drop (a + c)) = -1 := by unfold P.nz; rw [hk]; rfl
                rw [e1] at HN
                clear hk e1 HL0 HL1
                generalize P.nl (m + 3) (s.drop (a + c)) = nl at *
                generalize hlg : l.length = ln at *
                have Hlg := Lib.hid hlg
                clear hlg
                go_wp2_with (first
                  | (go_at_call 43; (with_reducible refine (HV2.out _).mono ?_); rintro e w4 ⟨rfl, hb4⟩; have hb4' := Chain.up hb hb4; have hx24 := hx2.up hb4)
                  | (go_at_call 45; (with_reducible refine (HN.out _).mono ?_); rintro e w5 ⟨v5, rfl, hown5, hb5⟩; have hb5' := Chain.up hb4' hb5; have hx25 := hx24.up hb5; obtain ⟨q0, q1, q2, q3, q4⟩ := hx25.five; have qf0 := hx25.frozen 0; have qf1 := hx25.frozen 1; have qf2 := hx25.frozen 2; have qf3 := hx25.frozen 3; have qf4 := hx25.frozen 4))
                obtain ⟨z0, z1, z2, z3, z4⟩ := (hx25.set5 (.slice none 0 0) (.slice none 0 0) (.int .u64 0) (.int .u64 0) (.int .u64 0)).five
                exact bodyPost_ret (v := noEd) (by simp [results, Try.results22, go_sem, z0, z1, z2, z3, z4]) rfl ⟨by rw [Hn.out]; exact rfl, below_set5 hb5' (Nat.le_refl _) _ _ _ _ _⟩
              | some q =>
                obtain ⟨k, r⟩ := q
                obtain ⟨d, x, y, z, rfl, hd, hdec⟩ := HL1.out _ _ hk
                have Hdec := Lib.hid hdec
                have hdrop := P.rdNums_drop hk
                have e1 : P.nz (m + 3) (s.drop (a + c)) = (((s.drop (a + c)).length - r.length : Nat) : Int) := by unfold P.nz; rw [hk]; rfl
                have e2 : P.nl (m + 3) (s.drop (a + c)) = d ++ [x, y, z] := by unfold P.nl; rw [hk]; rfl
                rw [e1, e2] at HN
                rw [List.length_drop] at HN hdrop
                clear hk e1 e2 hdec HL0 HL1
                have hrl := hdrop.2
                clear hdrop
                generalize hg : s.length - (a + c) - r.length = g at *
                have hwg : IntKind.i64.wrap (((a + c : Nat) : Int) + (g : Int)) = ((a + c + g : Nat) : Int) := by rw [IntWalk.i64_in _ (by omega)]; omega
                have hwg' : IntKind.i64.wrap ((a : Int) + (c : Int) + (g : Int)) = ((a + c + g : Nat) : Int) := by rw [IntWalk.i64_in _ (by omega)]; omega
                have hgb : decide ((g : Int) < 0) = false := decide_eq_false (by omega)
                by_cases hr : r = []
                · subst hr
                  have hgs : a + c + g = s.length := by rw [List.length_nil] at hg; omega
                  rw [hgs] at hwg hwg'
                  have HN1 : Hid (∀ wx, Calls Try.prog 45 #[S (s.drop (a + c)), .int .i64 ((m : Int) + 3)] wx fun e w' => (∃ b o cc, e = .returned (.tuple #[.slice (some ⟨b, o, none⟩) (m + 3) cc, .int .i64 (g : Int)]) ∧ OwnNums w' wx.heap.size (.slice (some ⟨b, o, none⟩) (m + 3) cc) (d ++ [x, y, z]) ∧ (m : Int) ≤ (cc : Int)) ∧ Below wx.heap.size wx w') := Lib.hid (fun wx => (HN.out wx).mono (by
                    rintro e w' ⟨v, rfl, hown, hb⟩
                    obtain ⟨ad, cc, hv, hrows, _⟩ := hown.is numCells_len
                    obtain ⟨b, o, rfl, _⟩ := hrows 0 (by simp)
                    have hl3 : (d ++ [x, y, z]).length = m + 3 := by simp [hd]
                    rw [hl3] at hv
                    subst hv
                    exact ⟨⟨b, o, cc, rfl, hown, by have := own_cap hown; omega⟩, hb⟩))
                  have hsub : IntKind.i64.wrap (((m + 3 : Nat) : Int) - 3) = (m : Int) := by rw [IntWalk.i64_in _ (by omega)]; omega
                  have hsub' : IntKind.i64.wrap ((m : Int) + 3 - 3) = (m : Int) := by rw [IntWalk.i64_in _ (by omega)]; omega
                  have hm1 : IntKind.i64.wrap ((m : Int) + 1) = (m : Int) + 1 := IntWalk.i64_in _ (by omega)
                  have hm2 : IntKind.i64.wrap ((m : Int) + 2) = (m : Int) + 2 := IntWalk.i64_in _ (by omega)
                  have HMay := Lib.hid (fun (rb : Bool) (hrb : P.mayB ⟨l, d, x, y, z⟩ = rb) (b o cc : Nat) wx (hT : TabsAt wx aa l) (hN : NumsAt wx (some ⟨b, o, none⟩) d) => may_any ⟨l, d, x, y, z⟩ aa (some ⟨b, o, none⟩) l.length ca m cc rfl hd.symm wx (by show l.length ≤ _; omega) (by show d.length ≤ _; omega) ⟨hT, hN⟩ x y z rb hrb)
                  clear HN hg hrl
                  have Hd := Lib.hid hd
                  clear hd
                  generalize hlg : l.length = ln at *
                  have Hlg := Lib.hid hlg
                  clear hlg
                  cases hmay : P.mayB ⟨l, d, x, y, z⟩ with
                  | true =>
                    have Hn := Lib.hid (show P.decE s = some ⟨l, d, x, y, z⟩ by rw [Hdec.out, if_pos ⟨rfl, hmay⟩])
                    have HM := Lib.hid (HMay.out true hmay)
                    clear HMay hmay Hdec
                    go_wp2_with (first
                      | (go_at_call 43; (with_reducible refine (HV2.out _).mono ?_); rintro e w4 ⟨rfl, hb4⟩; have hb4' := Chain.up hb hb4; have hx24 := hx2.up hb4; have hx44 := hx4.up hb4; have hz4 := Nat.le_trans hz hb4.size)
                      | (go_at_call 45; (with_reducible refine (HN1.out _).mono ?_); rintro e w5 ⟨⟨b, o, cc, rfl, hown5, hmcc⟩, hb5⟩;
                          have hx45 := hx44.up hb5; have hx25 := hx24.up hb5; have hb5' := Chain.up hb4' hb5; have hO := OwnR.up (OwnR.up HO.out hb4) hb5; have ht4 : w.heap.size + 1 < w4.heap.size := (by omega);
                          obtain ⟨i0, i1, i2, i3, i4⟩ := hx45.five; have if1 := hx45.frozen 1;
                          have hx46 := hx45.set 1 (.slice (some ⟨b, o, none⟩) m cc); have hO6 := hown5.other ht4 1 (.slice (some ⟨b, o, none⟩) m cc); obtain ⟨k0, _, _, _⟩ := three_at Hd.out hO6; obtain ⟨j0, j1, j2, j3, j4⟩ := hx46.five; have jf := hx46.frozen 2;
                          have hx47 := hx46.set 2 (V64 x); have hO7 := hO6.other ht4 2 (V64 x); obtain ⟨_, k1, _, _⟩ := three_at Hd.out hO7; obtain ⟨l0, l1, l2, l3, l4⟩ := hx47.five; have lf := hx47.frozen 3;
                          have hx48 := hx47.set 3 (V64 y); have hO8 := hO7.other ht4 3 (V64 y); obtain ⟨_, _, k2, _⟩ := three_at Hd.out hO8; obtain ⟨n0, n1, n2, n3, n4⟩ := hx48.five; have nf := hx48.frozen 4;
                          have hx49 := hx48.set 4 (V64 z); have hO9 := hO8.other ht4 4 (V64 z); obtain ⟨u0, u1, u2, u3, u4⟩ := hx49.five;
                          have hT9 := (((hO.other (show w.heap.size + 1 < w.heap.size + 1 + 1 by omega) 1 (.slice (some ⟨b, o, none⟩) m cc)).other (show w.heap.size + 1 < w.heap.size + 1 + 1 by omega) 2 (V64 x)).other (show w.heap.size + 1 < w.heap.size + 1 + 1 by omega) 3 (V64 y)).other (show w.heap.size + 1 < w.heap.size + 1 + 1 by omega) 4 (V64 z);
                          have hx29 := (((hx25.other (show w.heap.size + 1 ≠ w.heap.size by omega) 1 (.slice (some ⟨b, o, none⟩) m cc)).other (show w.heap.size + 1 ≠ w.heap.size by omega) 2 (V64 x)).other (show w.heap.size + 1 ≠ w.heap.size by omega) 3 (V64 y)).other (show w.heap.size + 1 ≠ w.heap.size by omega) 4 (V64 z);
                          have hb9 := (((hb5'.setCell (p := ⟨w.heap.size + 1, 1, none⟩) (Nat.le_succ _) (.slice (some ⟨b, o, none⟩) m cc)).setCell (p := ⟨w.heap.size + 1, 2, none⟩) (Nat.le_succ _) (V64 x)).setCell (p := ⟨w.heap.size + 1, 3, none⟩) (Nat.le_succ _) (V64 y)).setCell (p := ⟨w.heap.size + 1, 4, none⟩) (Nat.le_succ _) (V64 z))
                      | (go_at_call 21; (with_reducible refine (HM.out _ _ _ _ (hT9.at tabCells_len) (three_at Hd.out hO9).2.2.2).mono ?_); rintro e wm ⟨rfl, hbm⟩; have hx2m := hx29.up hbm; have hx4m := hx49.up hbm; obtain ⟨v0, v1, v2, v3, v4⟩ := hx2m.five; have vf0 := hx2m.frozen 0; have vf1 := hx2m.frozen 1; have vf2 := hx2m.frozen 2; have vf3 := hx2m.frozen 3; have vf4 := hx2m.frozen 4; obtain ⟨g0, g1, g2, g3, g4⟩ := hx4m.five; have hbf := Chain.up hb9 hbm; have hTm := OwnR.up hT9 hbm; have hNm := OwnR.up hO9 hbm))
                    obtain ⟨z0, z1, z2, z3, z4⟩ := (hx2m.set5 (.slice aa ln ca) (.slice (some ⟨b, o, none⟩) m cc) (V64 x) (V64 y) (V64 z)).five
                    have hTf := (hTm.put5 (show w.heap.size < w.heap.size + 1 + 1 by omega) (.slice aa ln ca) (.slice (some ⟨b, o, none⟩) m cc) (V64 x) (V64 y) (V64 z)).at tabCells_len
                    have hNf := (three_at Hd.out (hNm.put5 (show w.heap.size < w4.heap.size by omega) (.slice aa ln ca) (.slice (some ⟨b, o, none⟩) m cc) (V64 x) (V64 y) (V64 z))).2.2.2
                    exact bodyPost_ret (v := .tuple #[edV aa ln ca (some ⟨b, o, none⟩) m cc x y z, .bool true]) (by simp [results, Try.results22, go_sem, z0, z1, z2, z3, z4]) rfl ⟨by rw [Hn.out]; exact ⟨aa, ca, some ⟨b, o, none⟩, cc, by simp only [Hlg.out, Hd.out], hTf, hNf⟩, below_set5 hbf (Nat.le_refl _) _ _ _ _ _⟩
                  | false =>
                    have Hn := Lib.hid (show P.decE s = none by rw [Hdec.out, if_neg (fun q => by rw [hmay] at q; cases q.2)])
                    have HM := Lib.hid (HMay.out false hmay)
                    clear HMay hmay Hdec
                    go_wp2_with (first
                      | (go_at_call 43; (with_reducible refine (HV2.out _).mono ?_); rintro e w4 ⟨rfl, hb4⟩; have hb4' := Chain.up hb hb4; have hx24 := hx2.up hb4; have hx44 := hx4.up hb4; have hz4 := Nat.le_trans hz hb4.size)
                      | (go_at_call 45; (with_reducible refine (HN1.out _).mono ?_); rintro e w5 ⟨⟨b, o, cc, rfl, hown5, hmcc⟩, hb5⟩;
                          have hx45 := hx44.up hb5; have hx25 := hx24.up hb5; have hb5' := Chain.up hb4' hb5; have hO := OwnR.up (OwnR.up HO.out hb4) hb5; have ht4 : w.heap.size + 1 < w4.heap.size := (by omega);
                          obtain ⟨i0, i1, i2, i3, i4⟩ := hx45.five; have if1 := hx45.frozen 1;
                          have hx46 := hx45.set 1 (.slice (some ⟨b, o, none⟩) m cc); have hO6 := hown5.other ht4 1 (.slice (some ⟨b, o, none⟩) m cc); obtain ⟨k0, _, _, _⟩ := three_at Hd.out hO6; obtain ⟨j0, j1, j2, j3, j4⟩ := hx46.five; have jf := hx46.frozen 2;
                          have hx47 := hx46.set 2 (V64 x); have hO7 := hO6.other ht4 2 (V64 x); obtain ⟨_, k1, _, _⟩ := three_at Hd.out hO7; obtain ⟨l0, l1, l2, l3, l4⟩ := hx47.five; have lf := hx47.frozen 3;
                          have hx48 := hx47.set 3 (V64 y); have hO8 := hO7.other ht4 3 (V64 y); obtain ⟨_, _, k2, _⟩ := three_at Hd.out hO8; obtain ⟨n0, n1, n2, n3, n4⟩ := hx48.five; have nf := hx48.frozen 4;
                          have hx49 := hx48.set 4 (V64 z); have hO9 := hO8.other ht4 4 (V64 z); obtain ⟨u0, u1, u2, u3, u4⟩ := hx49.five;
                          have hT9 := (((hO.other (show w.heap.size + 1 < w.heap.size + 1 + 1 by omega) 1 (.slice (some ⟨b, o, none⟩) m cc)).other (show w.heap.size + 1 < w.heap.size + 1 + 1 by omega) 2 (V64 x)).other (show w.heap.size + 1 < w.heap.size + 1 + 1 by omega) 3 (V64 y)).other (show w.heap.size + 1 < w.heap.size + 1 + 1 by omega) 4 (V64 z);
                          have hx29 := (((hx25.other (show w.heap.size + 1 ≠ w.heap.size by omega) 1 (.slice (some ⟨b, o, none⟩) m cc)).other (show w.heap.size + 1 ≠ w.heap.size by omega) 2 (V64 x)).other (show w.heap.size + 1 ≠ w.heap.size by omega) 3 (V64 y)).other (show w.heap.size + 1 ≠ w.heap.size by omega) 4 (V64 z);
                          have hb9 := (((hb5'.setCell (p := ⟨w.heap.size + 1, 1, none⟩) (Nat.le_succ _) (.slice (some ⟨b, o, none⟩) m cc)).setCell (p := ⟨w.heap.size + 1, 2, none⟩) (Nat.le_succ _) (V64 x)).setCell (p := ⟨w.heap.size + 1, 3, none⟩) (Nat.le_succ _) (V64 y)).setCell (p := ⟨w.heap.size + 1, 4, none⟩) (Nat.le_succ _) (V64 z))
                      | (go_at_call 21; (with_reducible refine (HM.out _ _ _ _ (hT9.at tabCells_len) (three_at Hd.out hO9).2.2.2).mono ?_); rintro e wm ⟨rfl, hbm⟩; have hx2m := hx29.up hbm; have hx4m := hx49.up hbm; obtain ⟨v0, v1, v2, v3, v4⟩ := hx2m.five; have vf0 := hx2m.frozen 0; have vf1 := hx2m.frozen 1; have vf2 := hx2m.frozen 2; have vf3 := hx2m.frozen 3; have vf4 := hx2m.frozen 4; obtain ⟨g0, g1, g2, g3, g4⟩ := hx4m.five; have hbf := Chain.up hb9 hbm; have hTm := OwnR.up hT9 hbm; have hNm := OwnR.up hO9 hbm))
                    obtain ⟨z0, z1, z2, z3, z4⟩ := (hx2m.set5 (.slice none 0 0) (.slice none 0 0) (.int .u64 0) (.int .u64 0) (.int .u64 0)).five
                    exact bodyPost_ret (v := noEd) (by simp [results, Try.results22, go_sem, z0, z1, z2, z3, z4]) rfl ⟨by rw [Hn.out]; exact rfl, below_set5 hbf (Nat.le_refl _) _ _ _ _ _⟩
                · have Hn := Lib.hid (show P.decE s = none by rw [Hdec.out, if_neg (fun q => hr q.1)])
                  have hrp : 0 < r.length := List.length_pos_iff.2 hr
                  have hne : (((a + c + g : Nat) : Int) == (s.length : Int)) = false := beq_eq_false_iff_ne.2 (by omega)
                  have hne2 : (((a + c + g : Nat) : Int) != (s.length : Int)) = true := by rw [bne, hne]; rfl
                  clear hr Hdec hrl hg
                  generalize hlg : l.length = ln at *
                  have Hlg := Lib.hid hlg
                  clear hlg
                  go_wp2_with (first
                    | (go_at_call 43; (with_reducible refine (HV2.out _).mono ?_); rintro e w4 ⟨rfl, hb4⟩; have hb4' := Chain.up hb hb4; have hx24 := hx2.up hb4)
                    | (go_at_call 45; (with_reducible refine (HN.out _).mono ?_); rintro e w5 ⟨v5, rfl, hown5, hb5⟩; have hb5' := Chain.up hb4' hb5; have hx25 := hx24.up hb5; obtain ⟨q0, q1, q2, q3, q4⟩ := hx25.five; have qf0 := hx25.frozen 0; have qf1 := hx25.frozen 1; have qf2 := hx25.frozen 2; have qf3 := hx25.frozen 3; have qf4 := hx25.frozen 4))
                  obtain ⟨z0, z1, z2, z3, z4⟩ := (hx25.set5 (.slice none 0 0) (.slice none 0 0) (.int .u64 0) (.int .u64 0) (.int .u64 0)).five
                  exact bodyPost_ret (v := noEd) (by simp [results, Try.results22, go_sem, z0, z1, z2, z3, z4]) rfl ⟨by rw [Hn.out]; exact rfl, below_set5 hb5' (Nat.le_refl _) _ _ _ _ _⟩
end Go.Proofs.Ythpgigjplknomaa
