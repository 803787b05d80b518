/- The walk of the document's Join. -/
import Derived.Test.YthpgigjplknomaaWRefTwo
namespace Go.Proofs.Ythpgigjplknomaa
open Go.RowKit
set_option linter.unusedVariables false
set_option linter.unusedSimpArgs false

/-- An edit that lies so is given back. -/
def EdV (x : P.Ed) (e : Ending) (w : World) : Prop := ∃ a c b d, e = .returned (edV a x.add.length c b x.drop.length d x.log x.seq x.next) ∧ EdAt w a b x
set_option maxRecDepth 100000 in
set_option maxHeartbeats 2000000 in
theorem refJoin_none (a : Option Addr) (c : Nat) (w : World) :
    Calls Try.prog 24 #[.slice a 0 c] w fun e w' => EdV P.noE e w' ∧ Below w.heap.size w w' := by
  go_enter Try.func24, Try.ntmps24
  go_wp2_with fail
  exact bodyPost_ret (v := edV none 0 0 none 0 0 0 0 0) (by simp [results, Try.results24, go_sem]) rfl ⟨⟨none, 0, none, 0, rfl, fun i hi => by simp [P.noE] at hi, fun i hi => by simp [P.noE] at hi⟩, (Below.refl _ _).alloc (Nat.le_refl _) _⟩
abbrev put5 (w : World) (g : Nat) (v0 v1 v2 v3 v4 : Value) : World := ((((w.setCell ⟨g, 0, none⟩ v0).setCell ⟨g, 1, none⟩ v1).setCell ⟨g, 2, none⟩ v2).setCell ⟨g, 3, none⟩ v3).setCell ⟨g, 4, none⟩ v4
theorem OwnR.put5 {α : Type} {e : TypeId} {k : Nat} {cs : α → List Value} {w : World} {B : Nat} {v : Value} {l : List α} (h : OwnR e k cs w B v l) {g : Nat} (hg : g < B) (v0 v1 v2 v3 v4 : Value) : OwnR e k cs (put5 w g v0 v1 v2 v3 v4) B v l :=
  ((((h.other hg 0 v0).other hg 1 v1).other hg 2 v2).other hg 3 v3).other hg 4 v4
set_option maxRecDepth 100000 in
set_option maxHeartbeats 8000000 in
theorem refJoin_some (l : List P.Ed) (a : Option Addr) (n c : Nat) (hn : n = l.length) (w : World) (hf : P.few l) (h0 : 0 < l.length) (hp : EdsAt w a l) :
    Calls Try.prog 24 #[.slice a n c] w fun e w' => EdV (P.joinL l) e w' ∧ Below w.heap.size w w' := by
  have Hf := Lib.hid hf
  have Hn := Lib.hid hn
  have hn20 : n ≤ 20 := by have := Hf.out.1; omega
  have hn0 : (0 : Int) < (n : Int) := by omega
  have hnb : ((n : Int) == 0) = false := beq_eq_false_iff_ne.2 (by omega)
  obtain ⟨bb0, o0, rfl, hbb0, aa, ca, ab, cb, c0, c1, c2, c3, c4, hed⟩ := hp 0 h0
  have HP := Lib.hid hp
  have Hone := Lib.hid (P.joinL_one l h0)
  rw [Nat.zero_mul, Nat.add_zero] at c0 c1 c2 c3 c4
  have Hed := Lib.hid hed
  clear hf hp hn hed
  have hx2 := (Bx.fresh w 38 #[.slice none 0 0, .slice none 0 0, .int .u64 0, .int .u64 0, .int .u64 0]).up ((Below.refl _ _).alloc (Nat.le_refl _) (.cells #[.slice aa l[0].add.length ca, .slice ab l[0].drop.length cb, V64 l[0].log, V64 l[0].seq, V64 l[0].next] 38))
  have hx3 := Bx.fresh (w.alloc (.cells #[.slice none 0 0, .slice none 0 0, .int .u64 0, .int .u64 0, .int .u64 0] 38)) 38 #[.slice aa l[0].add.length ca, .slice ab l[0].drop.length cb, V64 l[0].log, V64 l[0].seq, V64 l[0].next]
  have hbw := ((Below.refl w.heap.size w).alloc (Nat.le_refl _) (.cells #[.slice none 0 0, .slice none 0 0, .int .u64 0, .int .u64 0, .int .u64 0] 38)).alloc (by simp) (.cells #[.slice aa l[0].add.length ca, .slice ab l[0].drop.length cb, V64 l[0].log, V64 l[0].seq, V64 l[0].next] 38)
  have ha1 := (Below.refl w.heap.size w).alloc (Nat.le_refl _) (.cells #[.slice none 0 0, .slice none 0 0, .int .u64 0, .int .u64 0, .int .u64 0] 38)
  have k0 := cell_up ha1 c0
  have k1 := cell_up ha1 c1
  have k2 := cell_up ha1 c2
  have k3 := cell_up ha1 c3
  have k4 := cell_up ha1 c4
  rw [show (w.alloc (.cells #[.slice none 0 0, .slice none 0 0, .int .u64 0, .int .u64 0, .int .u64 0] 38)).heap.size = w.heap.size + 1 by simp] at hx3
  have hl60 := Hf.out.2 _ (List.getElem_mem h0)
  generalize hq0 : l[0] = q0 at *
  have Hq0 := Lib.hid hq0
  clear hq0
  go_enter Try.func24, Try.ntmps24
  go_wp2_with fail
  have hsz2 : w.heap.size + 1 + 1 ≤ ((w.alloc (.cells #[.slice none 0 0, .slice none 0 0, .int .u64 0, .int .u64 0, .int .u64 0] 38)).alloc (.cells #[.slice aa q0.add.length ca, .slice ab q0.drop.length cb, V64 q0.log, V64 q0.seq, V64 q0.next] 38)).heap.size := by simp
  generalize (w.alloc (.cells #[.slice none 0 0, .slice none 0 0, .int .u64 0, .int .u64 0, .int .u64 0] 38)).alloc (.cells #[.slice aa q0.add.length ca, .slice ab q0.drop.length cb, V64 q0.log, V64 q0.seq, V64 q0.next] 38) = w2 at *
  have HX2 := Lib.hid hx2
  have Hbw := Lib.hid hbw
  clear k0 k1 k2 k3 k4 c0 c1 c2 c3 c4 ha1
  go_loopw [4] (fun i wr => ∃ (k : Nat) (a1 a2 : Option Addr) (d1 d2 : Nat), 1 ≤ k ∧ k ≤ n ∧ i = .int .i64 k ∧ Bx wr (w.heap.size + 1) 38 #[.slice a1 (P.joinL (l.take k)).add.length d1, .slice a2 (P.joinL (l.take k)).drop.length d2, V64 (P.joinL (l.take k)).log, V64 (P.joinL (l.take k)).seq, V64 (P.joinL (l.take k)).next] ∧
      (∀ w'', But (w.heap.size + 1) wr w'' → EdAt w'' a1 a2 (P.joinL (l.take k)) ∧ ∀ v0 v1 v2 v3 v4, EdAt (put5 w'' w.heap.size v0 v1 v2 v3 v4) a1 a2 (P.joinL (l.take k))) ∧ But (w.heap.size + 1) w2 wr) (fun i _ => n - (intOf i).toNat)
  case atStart => exact ⟨1, aa, ab, ca, cb, by omega, by omega, rfl, by rw [Hone.out]; exact hx3, fun w'' hw => by rw [Hone.out]; exact ⟨Hed.out.up (Hbw.out.trans (hw.below (Nat.le_succ _) Hbw.out.size)), fun v0 v1 v2 v3 v4 => Hed.out.up (below_set5 (Hbw.out.trans (hw.below (Nat.le_succ _) Hbw.out.size)) (Nat.le_refl _) v0 v1 v2 v3 v4)⟩, But.refl _ _⟩
  case round =>
    clear hx2 hx3 hbw
    obtain ⟨k, a1, a2, d1, d2, hk1, hk, rfl, hx3, hed, hbut⟩ := hrel
    have hlen := P.joinL_len _ (P.few_take Hf.out k)
    by_cases hlt : k < n
    · have hltl : k < l.length := by have := Hn.out; omega
      obtain ⟨m, rfl⟩ : ∃ m, k = m + 1 := ⟨k - 1, by omega⟩
      obtain ⟨bb, o, hbo, hbb, aa', ca', ab', cb', c0, c1, c2, c3, c4, hed'⟩ := HP.out (m + 1) hltl
      have hl60' := Hf.out.2 _ (List.getElem_mem hltl)
      have Hst := Lib.hid (P.joinL_step l m hltl)
      have HT := Lib.hid (fun wx (hx : Below wr.heap.size wr wx) => two_any (P.joinL (l.take (m + 1))) l[m + 1] a1 a2 aa' ab' (P.joinL (l.take (m + 1))).add.length d1 (P.joinL (l.take (m + 1))).drop.length d2 l[m + 1].add.length ca' l[m + 1].drop.length cb' rfl rfl rfl rfl wx (by omega) (by omega) (by omega) (by omega)
        ((hed wr (But.refl _ _)).1.up hx) (hed'.up (Chain.up (Hbw.out.trans (hbut.below (Nat.le_succ _) Hbw.out.size)) hx)))
      clear hed hed' hlen
      injection hbo with hbo
      injection hbo with hbo hbo'
      subst hbo hbo'
      generalize l[m + 1] = q at *
      generalize P.joinL (l.take (m + 1)) = x at *
      generalize P.joinE x q = z at *
      generalize q.add.length = na at *
      generalize q.drop.length = nd at *
      generalize x.add.length = xa at *
      generalize x.drop.length = xd at *
      obtain ⟨p0, p1, p2, p3, p4⟩ := hx3.five
      have hm0 : (0 : Int) ≤ (m : Int) + 1 := by omega
      have hm1 : (m : Int) + 1 < (n : Int) := by omega
      have hlt3 : w.heap.size < wr.drew.heap.size := by have := hbut.size; show w.heap.size < wr.heap.size; omega
      go_wp2_with fail
      refine wp_region_held_drew (S := fun wx => But (w.heap.size + 1) w2 wx) (by kernel_rfl) hbut.drew (fun hHeld => ?_)
      -- REGION 7
      refine wpAnyH_take (i := 1) (v := ?_) rfl (by kernel_rfl) (by kernel_rfl) (by kernel_rfl) (fun _ _ _ h => h) (Or.inl ⟨by rfl, ?_⟩) hHeld ?_
      rotate_left
      · intro wq hSw; go_simp; (try with_reducible rfl)
      simp only [Act.put, List.getElem_toArray, List.getElem_cons_succ, List.getElem_cons_zero, List.setIfInBounds_toArray, List.set_cons_zero, List.set_cons_succ]
      refine wpAnyH_take (i := 2) (v := ?_) rfl (by kernel_rfl) (by kernel_rfl) (by kernel_rfl) (fun _ _ _ h => h) (Or.inl ⟨by rfl, ?_⟩) hHeld ?_
      rotate_left
      · intro wq hSw; go_simp; (try with_reducible rfl)
      simp only [Act.put, List.getElem_toArray, List.getElem_cons_succ, List.getElem_cons_zero, List.setIfInBounds_toArray, List.set_cons_zero, List.set_cons_succ]
      refine wpAnyH_take (i := 3) (v := ?_) rfl (by kernel_rfl) (by kernel_rfl) (by kernel_rfl) (fun _ _ _ h => h) (Or.inl ⟨by rfl, ?_⟩) hHeld ?_
      rotate_left
      · intro wq hSw; go_simp; (try with_reducible rfl)
      simp only [Act.put, List.getElem_toArray, List.getElem_cons_succ, List.getElem_cons_zero, List.setIfInBounds_toArray, List.set_cons_zero, List.set_cons_succ]
      refine wpAnyH_take (i := 4) (v := ?_) rfl (by kernel_rfl) (by kernel_rfl) (by kernel_rfl) (fun _ _ _ h => h) (Or.inl ⟨by rfl, ?_⟩) hHeld ?_
      rotate_left
      · intro wq hSw; have hcx := Hbw.out.trans (hSw.below (by omega) Hbw.out.size); have k0 := cell_below hcx hbb c0; have k1 := cell_below hcx hbb c1; have k2 := cell_below hcx hbb c2; have k3 := cell_below hcx hbb c3; have k4 := cell_below hcx hbb c4; go_simp; (try with_reducible rfl)
      simp only [Act.put, List.getElem_toArray, List.getElem_cons_succ, List.getElem_cons_zero, List.setIfInBounds_toArray, List.set_cons_zero, List.set_cons_succ]
      refine wpAnyH_one (i := 0) (by kernel_rfl) rfl (fun K hK => ?_)
      simp only [List.getElem_toArray, List.getElem_cons_succ, List.getElem_cons_zero]
      go_simp
      refine hK.out _ _ hHeld ?_
      clear hK K
      refine wpAnyH_one (i := 5) (by kernel_rfl) rfl (fun K hK => ?_)
      simp only [List.getElem_toArray, List.getElem_cons_succ, List.getElem_cons_zero]
      go_simp
      (with_reducible refine (HT.out _ (Below.refl _ _).drew).mono ?_)
      rintro e w7 ⟨v1, v2, rfl, hown1, hown2, hb7⟩
      have hc7 := (Below.refl wr.heap.size wr).drew.trans hb7
      have hbut7 := hbut.up (hc7.mono hbut.size)
      refine hK.out _ _ hbut7 ?_
      clear hK K
      obtain ⟨b1, d1', hv1, hr1, _⟩ := hown1.is tabCells_len
      subst hv1
      obtain ⟨b2, d2', hv2, hr2, _⟩ := hown2.is numCells_len
      subst hv2
      have hx37 := hx3.up hc7
      obtain ⟨q0, q1, q2, q3, q4⟩ := hx37.five
      have qf0 := hx37.frozen 0
      have qf1 := hx37.frozen 1
      have qf2 := hx37.frozen 2
      have qf3 := hx37.frozen 3
      have qf4 := hx37.frozen 4
      refine wpAnyH_one (i := 6) (by kernel_rfl) rfl (fun K hK => ?_)
      simp only [List.getElem_toArray, List.getElem_cons_succ, List.getElem_cons_zero]
      go_simp
      refine hK.out _ _ (((((hbut7.set 0 _).set 1 _).set 2 _).set 3 _).set 4 _) ?_
      clear hK K
      refine wpAnyH_done (by kernel_rfl) ?_ _
      -- END REGION 7
      go_wp2_with fail
      go_roundw
      case rel => exact ⟨m + 1 + 1, b1, b2, d1', d2', by omega, by omega, by go_num, by rw [Hst.out]; exact hx37.set5 _ _ _ _ _, fun w'' hw => by
        have hbu := ((((((But.refl (w.heap.size + 1) w7).set 0 (.slice b1 z.add.length d1')).set 1 (.slice b2 z.drop.length d2')).set 2 (V64 z.log)).set 3 (V64 z.seq)).set 4 (V64 z.next)).trans hw
        rw [Hst.out]; exact ⟨⟨(hown1.but hx37 (by decide) hbu).at tabCells_len, NumsAt.of ((hown2.but hx37 (by decide) hbu).at numCells_len)⟩, fun v0 v1 v2 v3 v4 => ⟨((hown1.but hx37 (by decide) hbu).put5 hlt3 v0 v1 v2 v3 v4).at tabCells_len, NumsAt.of (((hown2.but hx37 (by decide) hbu).put5 hlt3 v0 v1 v2 v3 v4).at numCells_len)⟩⟩, ((((hbut7.set 0 _).set 1 _).set 2 _).set 3 _).set 4 _⟩
      case measure => simp [intOf]; omega
    · obtain rfl : k = n := by omega
      have hlk : l.take k = l := List.take_of_length_le (by have := Hn.out; omega)
      rw [hlk] at hx3 hed
      clear hlk hlt hk hlen
      have hx2 := HX2.out.but hbut (by omega)
      generalize hz : P.joinL l = z at *
      have Hz := Lib.hid hz
      clear hz
      have HE := Lib.hid hed
      clear hed
      generalize hna : z.add.length = na at *
      generalize hnd : z.drop.length = nd at *
      have Hna := Lib.hid hna
      have Hnd := Lib.hid hnd
      clear hna hnd
      obtain ⟨p0, p1, p2, p3, p4⟩ := hx3.five
      obtain ⟨r0, r1, r2, r3, r4⟩ := hx2.five
      have rf0 := hx2.frozen 0
      have rf1 := hx2.frozen 1
      have rf2 := hx2.frozen 2
      have rf3 := hx2.frozen 3
      have rf4 := hx2.frozen 4
      go_wp2_with fail
      obtain ⟨q0, q1, q2, q3, q4⟩ := (hx2.set5 (.slice a1 na d1) (.slice a2 nd d2) (V64 z.log) (V64 z.seq) (V64 z.next)).five
      exact bodyPost_ret (v := edV a1 na d1 a2 nd d2 z.log z.seq z.next) (by simp [results, Try.results24, go_sem, q0, q1, q2, q3, q4]) rfl
        ⟨⟨a1, d1, a2, d2, by rw [Hz.out, Hna.out, Hnd.out], by rw [Hz.out]; exact (HE.out wr (But.refl _ _)).2 _ _ _ _ _⟩, below_set5 (Hbw.out.trans (hbut.below (Nat.le_succ _) Hbw.out.size)) (Nat.le_refl _) _ _ _ _ _⟩
end Go.Proofs.Ythpgigjplknomaa
