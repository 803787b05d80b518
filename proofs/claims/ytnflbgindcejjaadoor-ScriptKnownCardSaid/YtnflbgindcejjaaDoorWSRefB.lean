/- The walk of the document's Bytes (script). -/
import Derived.Test.YtnflbgindcejjaaDoorWSRefC
import Derived.Test.YtnflbgindcejjaaDoorWTextsR
import Derived.Test.YtnflbgindcejjaaDoorWSDec
namespace Go.Proofs.YtnflbgindcejjaaDoor
open Go.RowKit
set_option linter.unusedVariables false
set_option linter.unusedSimpArgs false

theorem refText_one (k : List UInt8) (hk : k.length ≤ 20000) (w : World) (g : Nat) (hg : g = w.heap.size) :
    Calls Tryd.prog 43 #[.slice (some ⟨g, 0, none⟩) 1 1] (w.alloc (.cells #[S k] 9)) fun e w' => e = .returned (S (P.row k.length ++ k)) ∧ Below w.heap.size w w' := by
  subst hg
  have h := refTexts_any (some ⟨w.heap.size, 0, none⟩) 1 [k] (w.alloc (.cells #[S k] 9)) (by simp) (by simp [P.total]; omega) (strs_new w _ _ _ rfl)
  rw [show P.texts [k] = P.row k.length ++ k by simp [P.texts]] at h
  exact h.mono fun e w' ⟨he, hb⟩ => ⟨he, ((Below.refl _ _).alloc (Nat.le_refl _) _).trans (hb.mono (by simp))⟩
set_option maxRecDepth 10000 in
theorem DrawsAt.says {w : World} {a : Option Addr} {d : List UInt8} {n c : Nat} (h : DrawsAt w a d) (hn : n = d.length) (hc : a = none → c = 0) : Says w (.slice a n c) d := by
  intro wx hx
  subst hn
  rcases h with rfl | ⟨b, o, rfl, h2, h3⟩
  · show (convert 30 9 (.slice a 0 c)).run Tryd.prog wx = _
    rw [run_convert_bytes_string wx 30 9 5 a 0 c Tryd.underlying30 Tryd.underlying5 Tryd.underlying9]
    cases a with
    | none => simp [Conv.bytesToString]; rfl
    | some a => simp [Conv.bytesToString, loadCells, loadCellsFrom]; rfl
  · have hr := run_convert_bytes_arg (P := Tryd.prog) (w := wx) 30 5 Tryd.underlying30 Tryd.underlying5 b o d.length c (d.map fun b => (b.toNat : Int)) (by simp) (fun i hi => by
      rw [hx.cell (p := ⟨b, o + i, none⟩) h2, h3 i hi]
      simp [u8V, hi]) 9 Tryd.underlying9
    rw [hr]
    have e1 : strOfNums (d.map fun b => (b.toNat : Int)) = ⟨d.toArray⟩ := by
      unfold strOfNums
      congr 2
      rw [List.map_map]
      conv => rhs; rw [← List.map_id d]
      apply List.map_congr_left
      intro b _
      simp
    rw [e1]
theorem blk_new (w1 : World) (cs : Array Value) (t : TypeId) (l : List UInt8) (g : Nat) (hg : g = w1.heap.size) (h : cs = bytesV l) : Blk (w1.alloc (.cells cs t)) g t l := by
  subst hg
  exact blk_lit rfl h
/-- What region 10's slots hold. -/
def byR (A0 R0 C0 : List UInt8) (i : Nat) (v : Value) (w : World) : Prop := match i with
  | 3 => v = S R0
  | 4 => v = S (A0 ++ R0)
  | 7 => v = S C0
  | 8 => v = S (A0 ++ (R0 ++ C0))
  | 9 => v = S (A0 ++ (R0 ++ C0))
  | _ => True
theorem byR_up (A0 R0 C0 : List UInt8) (i : Nat) (v : Value) (w w' : World) (h : byR A0 R0 C0 i v w) (hb : Below w.heap.size w w') : byR A0 R0 C0 i v w' := by
  unfold byR at h ⊢
  split at h <;> first | exact h | trivial
attribute [local go_sem] str_app List.append_assoc

set_option maxRecDepth 100000 in
set_option maxHeartbeats 16000000 in
theorem refBytes_1 (r : AcR) (hkind : r.x.kind = 1) (w : World) (hr : P.rightB r.x = true) (hty : P.tyAc r.x) (ht : r.x.text.length ≤ 20000) (hat : AcAt w r) :
    Calls Tryd.prog 25 #[acV r.x.kind r.x.n r.x.text r.da r.x.draws.length r.dc r.x.cr.names r.a r.x.cr.keep.length r.k r.b r.x.cr.spoil.length r.m] w fun e w' => e = .returned (S (P.actB r.x)) ∧ Below w.heap.size w w' := by
  obtain ⟨⟨kind, n, text, draws, ⟨names, keep, spoil⟩⟩, da, dc, a, kc, b, mc⟩ := r
  simp only at hkind hr hty ht hat ⊢
  subst hkind
  obtain ⟨g1, g2, g3, g4, g5, g6, g7, g8⟩ := P.right_kind hr
  obtain ⟨t1, t2, t3⟩ := hty
  obtain ⟨a1, a2, a3⟩ := hat
  simp only at g1 g2 g3 g4 g5 g6 g7 g8 t1 t2 t3 a1 a2 a3
  have HC := Lib.hid (fun wx (hx : Below w.heap.size w wx) => refCrash_any ⟨names, keep, spoil⟩ a b keep.length kc spoil.length mc rfl rfl g4 t3 wx (a3.up hx))
  have hx0 := Bx.fresh w 32 #[.int .u8 1, V64 n, S text, .slice da draws.length dc, .int .i64 names, .slice a keep.length kc, .slice b spoil.length mc]
  have hb0 : Below w.heap.size w (w.alloc (.cells #[.int .u8 1, V64 n, S text, .slice da draws.length dc, .int .i64 names, .slice a keep.length kc, .slice b spoil.length mc] 32)) := (Below.refl _ _).alloc (Nat.le_refl _) _
  have hx1 := hx0.up ((Below.refl _ _).alloc (Nat.le_refl _) (.cells #[.int .u8 1] 5))
  have hb1 := hb0.alloc hb0.size (.cells #[.int .u8 1] 5)
  have A1 := Lib.hid a1
  have A2 := Lib.hid a2
  clear hr g1 g2 g5 g6 g7 g8 a1 a2 a3
  have Hact := Lib.hid (show P.actB ⟨1, n, text, draws, ⟨names, keep, spoil⟩⟩ = [P.byt 1] ++ (P.row text.length ++ text) by unfold P.actB; simp)
  have hrl := P.row_len9 text.length
  have HT := Lib.hid (fun wx gx hg => refText_one text ht wx gx hg)
  generalize hrt : P.row text.length ++ text = rt at *
  have hrtl : rt.length ≤ 20009 := by rw [← hrt, List.length_append]; omega
  clear hrt
  go_enter Tryd.func25, Tryd.ntmps25
  go_wp2_with (first
    | (refine wpList_conv_str 5 5 _ 0 1 1 [P.byt 1] [P.byt 1] (by rfl) Tryd.underlying30 Tryd.underlying5 Tryd.underlying9 (blk_new _ _ _ _ _ ?hg1 (one_byte _ _ (byt_small 1 (by omega)))) ?hs1 (by rfl) ?_; (case hs1 => simp); (case hg1 => simp))
    | (go_at_call 43; (with_reducible refine (HT.out _ _ ?hg3).mono ?_); (case hg3 => simp); rintro e w3 ⟨rfl, hd3⟩))
  go_ret
  exact ⟨by rw [Hact.out]; rfl, Chain.up hb1 hd3⟩

set_option maxRecDepth 100000 in
set_option maxHeartbeats 16000000 in
theorem refBytes_2 (r : AcR) (hkind : r.x.kind = 2) (w : World) (hr : P.rightB r.x = true) (hty : P.tyAc r.x) (ht : r.x.text.length ≤ 20000) (hat : AcAt w r) :
    Calls Tryd.prog 25 #[acV r.x.kind r.x.n r.x.text r.da r.x.draws.length r.dc r.x.cr.names r.a r.x.cr.keep.length r.k r.b r.x.cr.spoil.length r.m] w fun e w' => e = .returned (S (P.actB r.x)) ∧ Below w.heap.size w w' := by
  obtain ⟨⟨kind, n, text, draws, ⟨names, keep, spoil⟩⟩, da, dc, a, kc, b, mc⟩ := r
  simp only at hkind hr hty ht hat ⊢
  subst hkind
  obtain ⟨g1, g2, g3, g4, g5, g6, g7, g8⟩ := P.right_kind hr
  obtain ⟨t1, t2, t3⟩ := hty
  obtain ⟨a1, a2, a3⟩ := hat
  simp only at g1 g2 g3 g4 g5 g6 g7 g8 t1 t2 t3 a1 a2 a3
  have HC := Lib.hid (fun wx (hx : Below w.heap.size w wx) => refCrash_any ⟨names, keep, spoil⟩ a b keep.length kc spoil.length mc rfl rfl g4 t3 wx (a3.up hx))
  have hx0 := Bx.fresh w 32 #[.int .u8 2, V64 n, S text, .slice da draws.length dc, .int .i64 names, .slice a keep.length kc, .slice b spoil.length mc]
  have hb0 : Below w.heap.size w (w.alloc (.cells #[.int .u8 2, V64 n, S text, .slice da draws.length dc, .int .i64 names, .slice a keep.length kc, .slice b spoil.length mc] 32)) := (Below.refl _ _).alloc (Nat.le_refl _) _
  have hx1 := hx0.up ((Below.refl _ _).alloc (Nat.le_refl _) (.cells #[.int .u8 2] 5))
  have hb1 := hb0.alloc hb0.size (.cells #[.int .u8 2] 5)
  have A1 := Lib.hid a1
  have A2 := Lib.hid a2
  clear hr g1 g2 g5 g6 g7 g8 a1 a2 a3
  have Hact := Lib.hid (show P.actB ⟨2, n, text, draws, ⟨names, keep, spoil⟩⟩ = [P.byt 2] ++ P.row n by unfold P.actB; simp)
  have hrl := P.row_len9 n
  have HR := Lib.hid (fun wx => row_any n t2 wx)
  generalize P.row n = R0 at *
  go_enter Tryd.func25, Tryd.ntmps25
  go_wp2_with (first
    | (refine wpList_conv_str 5 5 _ 0 1 1 [P.byt 2] [P.byt 2] (by rfl) Tryd.underlying30 Tryd.underlying5 Tryd.underlying9 (blk_new _ _ _ _ _ ?hg1 (one_byte _ _ (byt_small 2 (by omega)))) ?hs1 (by rfl) ?_; (case hs1 => simp); (case hg1 => simp))
    | (go_at_call 41; (with_reducible refine (HR.out _).mono ?_); rintro e w3 ⟨rfl, hd3⟩))
  go_ret
  exact ⟨by rw [Hact.out]; rfl, Chain.up hb1 hd3⟩

set_option maxRecDepth 100000 in
set_option maxHeartbeats 16000000 in
theorem refBytes_3 (r : AcR) (hkind : r.x.kind = 3) (w : World) (hr : P.rightB r.x = true) (hty : P.tyAc r.x) (ht : r.x.text.length ≤ 20000) (hat : AcAt w r) :
    Calls Tryd.prog 25 #[acV r.x.kind r.x.n r.x.text r.da r.x.draws.length r.dc r.x.cr.names r.a r.x.cr.keep.length r.k r.b r.x.cr.spoil.length r.m] w fun e w' => e = .returned (S (P.actB r.x)) ∧ Below w.heap.size w w' := by
  obtain ⟨⟨kind, n, text, draws, ⟨names, keep, spoil⟩⟩, da, dc, a, kc, b, mc⟩ := r
  simp only at hkind hr hty ht hat ⊢
  subst hkind
  obtain ⟨g1, g2, g3, g4, g5, g6, g7, g8⟩ := P.right_kind hr
  obtain ⟨t1, t2, t3⟩ := hty
  obtain ⟨a1, a2, a3⟩ := hat
  simp only at g1 g2 g3 g4 g5 g6 g7 g8 t1 t2 t3 a1 a2 a3
  have HC := Lib.hid (fun wx (hx : Below w.heap.size w wx) => refCrash_any ⟨names, keep, spoil⟩ a b keep.length kc spoil.length mc rfl rfl g4 t3 wx (a3.up hx))
  have hx0 := Bx.fresh w 32 #[.int .u8 3, V64 n, S text, .slice da draws.length dc, .int .i64 names, .slice a keep.length kc, .slice b spoil.length mc]
  have hb0 : Below w.heap.size w (w.alloc (.cells #[.int .u8 3, V64 n, S text, .slice da draws.length dc, .int .i64 names, .slice a keep.length kc, .slice b spoil.length mc] 32)) := (Below.refl _ _).alloc (Nat.le_refl _) _
  have hx1 := hx0.up ((Below.refl _ _).alloc (Nat.le_refl _) (.cells #[.int .u8 3] 5))
  have hb1 := hb0.alloc hb0.size (.cells #[.int .u8 3] 5)
  have A1 := Lib.hid a1
  have A2 := Lib.hid a2
  clear hr g1 g2 g5 g6 g7 g8 a1 a2 a3
  have Hact := Lib.hid (show P.actB ⟨3, n, text, draws, ⟨names, keep, spoil⟩⟩ = [P.byt 3] by unfold P.actB; simp)
  go_enter Tryd.func25, Tryd.ntmps25
  go_wp2_with (first
    | (refine wpList_conv_str 5 5 _ 0 1 1 [P.byt 3] [P.byt 3] (by rfl) Tryd.underlying30 Tryd.underlying5 Tryd.underlying9 (blk_new _ _ _ _ _ ?hg1 (one_byte _ _ (byt_small 3 (by omega)))) ?hs1 (by rfl) ?_; (case hs1 => simp); (case hg1 => simp)))
  go_ret
  exact ⟨by rw [Hact.out]; rfl, hb1⟩

set_option maxRecDepth 100000 in
set_option maxHeartbeats 16000000 in
theorem refBytes_4 (r : AcR) (hkind : r.x.kind = 4) (w : World) (hr : P.rightB r.x = true) (hty : P.tyAc r.x) (ht : r.x.text.length ≤ 20000) (hat : AcAt w r) :
    Calls Tryd.prog 25 #[acV r.x.kind r.x.n r.x.text r.da r.x.draws.length r.dc r.x.cr.names r.a r.x.cr.keep.length r.k r.b r.x.cr.spoil.length r.m] w fun e w' => e = .returned (S (P.actB r.x)) ∧ Below w.heap.size w w' := by
  obtain ⟨⟨kind, n, text, draws, ⟨names, keep, spoil⟩⟩, da, dc, a, kc, b, mc⟩ := r
  simp only at hkind hr hty ht hat ⊢
  subst hkind
  obtain ⟨g1, g2, g3, g4, g5, g6, g7, g8⟩ := P.right_kind hr
  obtain ⟨t1, t2, t3⟩ := hty
  obtain ⟨a1, a2, a3⟩ := hat
  simp only at g1 g2 g3 g4 g5 g6 g7 g8 t1 t2 t3 a1 a2 a3
  have HC := Lib.hid (fun wx (hx : Below w.heap.size w wx) => refCrash_any ⟨names, keep, spoil⟩ a b keep.length kc spoil.length mc rfl rfl g4 t3 wx (a3.up hx))
  have hx0 := Bx.fresh w 32 #[.int .u8 4, V64 n, S text, .slice da draws.length dc, .int .i64 names, .slice a keep.length kc, .slice b spoil.length mc]
  have hb0 : Below w.heap.size w (w.alloc (.cells #[.int .u8 4, V64 n, S text, .slice da draws.length dc, .int .i64 names, .slice a keep.length kc, .slice b spoil.length mc] 32)) := (Below.refl _ _).alloc (Nat.le_refl _) _
  have hx1 := hx0.up ((Below.refl _ _).alloc (Nat.le_refl _) (.cells #[.int .u8 4] 5))
  have hb1 := hb0.alloc hb0.size (.cells #[.int .u8 4] 5)
  have A1 := Lib.hid a1
  have A2 := Lib.hid a2
  clear hr g1 g2 g5 g6 g7 g8 a1 a2 a3
  have Hact := Lib.hid (show P.actB ⟨4, n, text, draws, ⟨names, keep, spoil⟩⟩ = [P.byt 4] by unfold P.actB; simp)
  go_enter Tryd.func25, Tryd.ntmps25
  go_wp2_with (first
    | (refine wpList_conv_str 5 5 _ 0 1 1 [P.byt 4] [P.byt 4] (by rfl) Tryd.underlying30 Tryd.underlying5 Tryd.underlying9 (blk_new _ _ _ _ _ ?hg1 (one_byte _ _ (byt_small 4 (by omega)))) ?hs1 (by rfl) ?_; (case hs1 => simp); (case hg1 => simp)))
  go_ret
  exact ⟨by rw [Hact.out]; rfl, hb1⟩

set_option maxRecDepth 100000 in
set_option maxHeartbeats 16000000 in
theorem refBytes_5 (r : AcR) (hkind : r.x.kind = 5) (w : World) (hr : P.rightB r.x = true) (hty : P.tyAc r.x) (ht : r.x.text.length ≤ 20000) (hat : AcAt w r) :
    Calls Tryd.prog 25 #[acV r.x.kind r.x.n r.x.text r.da r.x.draws.length r.dc r.x.cr.names r.a r.x.cr.keep.length r.k r.b r.x.cr.spoil.length r.m] w fun e w' => e = .returned (S (P.actB r.x)) ∧ Below w.heap.size w w' := by
  obtain ⟨⟨kind, n, text, draws, ⟨names, keep, spoil⟩⟩, da, dc, a, kc, b, mc⟩ := r
  simp only at hkind hr hty ht hat ⊢
  subst hkind
  obtain ⟨g1, g2, g3, g4, g5, g6, g7, g8⟩ := P.right_kind hr
  obtain ⟨t1, t2, t3⟩ := hty
  obtain ⟨a1, a2, a3⟩ := hat
  simp only at g1 g2 g3 g4 g5 g6 g7 g8 t1 t2 t3 a1 a2 a3
  have HC := Lib.hid (fun wx (hx : Below w.heap.size w wx) => refCrash_any ⟨names, keep, spoil⟩ a b keep.length kc spoil.length mc rfl rfl g4 t3 wx (a3.up hx))
  have hx0 := Bx.fresh w 32 #[.int .u8 5, V64 n, S text, .slice da draws.length dc, .int .i64 names, .slice a keep.length kc, .slice b spoil.length mc]
  have hb0 : Below w.heap.size w (w.alloc (.cells #[.int .u8 5, V64 n, S text, .slice da draws.length dc, .int .i64 names, .slice a keep.length kc, .slice b spoil.length mc] 32)) := (Below.refl _ _).alloc (Nat.le_refl _) _
  have hx1 := hx0.up ((Below.refl _ _).alloc (Nat.le_refl _) (.cells #[.int .u8 5] 5))
  have hb1 := hb0.alloc hb0.size (.cells #[.int .u8 5] 5)
  have A1 := Lib.hid a1
  have A2 := Lib.hid a2
  clear hr g1 g2 g5 g6 g7 g8 a1 a2 a3
  have Hact := Lib.hid (show P.actB ⟨5, n, text, draws, ⟨names, keep, spoil⟩⟩ = [P.byt 5] ++ [P.byt draws.length] ++ draws by unfold P.actB; simp)
  have hd8 : IntKind.u8.wrap (draws.length : Int) = (draws.length : Int) := u8_in' (by omega)
  have HS := Lib.hid (fun wx (hx : Below w.heap.size w wx) => DrawsAt.says (A1.out.up hx) (rfl : draws.length = draws.length) A2.out)
  have HS := Lib.hid (fun wx (hx : Below w.heap.size w wx) => show (convert 30 9 (.slice da draws.length dc)).run Tryd.prog wx = .ok (S draws) wx from HS.out wx hx wx (Below.refl _ _))
  have Hdl8 := Lib.hid (byt_small draws.length (by omega))
  have hb2 := hb1.alloc hb1.size (.cells #[.int .u8 draws.length] 5)
  have hrun := HS.out _ hb2
  have hdl : draws.length ≤ 255 := g3
  generalize hdn : draws.length = dl at *
  have Hdn := Lib.hid hdn
  have hdr : draws.length ≤ 255 := by omega
  clear hdn
  go_enter Tryd.func25, Tryd.ntmps25
  go_wp2_with (first
    | (refine wpList_conv_str 5 5 _ 0 1 1 [P.byt 5] [P.byt 5] (by rfl) Tryd.underlying30 Tryd.underlying5 Tryd.underlying9 (blk_new _ _ _ _ _ ?hg1 (one_byte _ _ (byt_small 5 (by omega)))) ?hs1 (by rfl) ?_; (case hs1 => simp); (case hg1 => simp))
    | (refine wpList_conv_str 5 5 _ 0 1 1 [P.byt dl] [P.byt dl] (by rfl) Tryd.underlying30 Tryd.underlying5 Tryd.underlying9 (blk_new _ _ _ _ _ ?hg2 (one_byte _ _ Hdl8.out)) ?hs2 (by rfl) ?_; (case hs2 => simp); (case hg2 => simp)))
  go_ret
  exact ⟨by rw [Hact.out]; rfl, hb2⟩

set_option maxRecDepth 100000 in
set_option maxHeartbeats 16000000 in
theorem refBytes_6 (r : AcR) (hkind : r.x.kind = 6) (w : World) (hr : P.rightB r.x = true) (hty : P.tyAc r.x) (ht : r.x.text.length ≤ 20000) (hat : AcAt w r) :
    Calls Tryd.prog 25 #[acV r.x.kind r.x.n r.x.text r.da r.x.draws.length r.dc r.x.cr.names r.a r.x.cr.keep.length r.k r.b r.x.cr.spoil.length r.m] w fun e w' => e = .returned (S (P.actB r.x)) ∧ Below w.heap.size w w' := by
  obtain ⟨⟨kind, n, text, draws, ⟨names, keep, spoil⟩⟩, da, dc, a, kc, b, mc⟩ := r
  simp only at hkind hr hty ht hat ⊢
  subst hkind
  obtain ⟨g1, g2, g3, g4, g5, g6, g7, g8⟩ := P.right_kind hr
  obtain ⟨t1, t2, t3⟩ := hty
  obtain ⟨a1, a2, a3⟩ := hat
  simp only at g1 g2 g3 g4 g5 g6 g7 g8 t1 t2 t3 a1 a2 a3
  have HC := Lib.hid (fun wx (hx : Below w.heap.size w wx) => refCrash_any ⟨names, keep, spoil⟩ a b keep.length kc spoil.length mc rfl rfl g4 t3 wx (a3.up hx))
  have hx0 := Bx.fresh w 32 #[.int .u8 6, V64 n, S text, .slice da draws.length dc, .int .i64 names, .slice a keep.length kc, .slice b spoil.length mc]
  have hb0 : Below w.heap.size w (w.alloc (.cells #[.int .u8 6, V64 n, S text, .slice da draws.length dc, .int .i64 names, .slice a keep.length kc, .slice b spoil.length mc] 32)) := (Below.refl _ _).alloc (Nat.le_refl _) _
  have hx1 := hx0.up ((Below.refl _ _).alloc (Nat.le_refl _) (.cells #[.int .u8 6] 5))
  have hb1 := hb0.alloc hb0.size (.cells #[.int .u8 6] 5)
  have A1 := Lib.hid a1
  have A2 := Lib.hid a2
  clear hr g1 g2 g5 g6 g7 g8 a1 a2 a3
  have Hact := Lib.hid (show P.actB ⟨6, n, text, draws, ⟨names, keep, spoil⟩⟩ = [P.byt 6] ++ P.row n ++ P.crashB ⟨names, keep, spoil⟩ by unfold P.actB; simp)
  have hcl := P.crashB_le ⟨names, keep, spoil⟩ g4
  generalize P.crashB ⟨names, keep, spoil⟩ = C0 at *
  simp only at HC
  have hrl := P.row_len9 n
  have HR := Lib.hid (fun wx => row_any n t2 wx)
  generalize P.row n = R0 at *
  generalize keep.length = k at *
  generalize spoil.length = m at *
  obtain ⟨_, _, _, _, _, _, _⟩ := hx1.seven
  go_enter Tryd.func25, Tryd.ntmps25
  go_wp2_with (first
    | (refine wpList_conv_str 5 5 _ 0 1 1 [P.byt 6] [P.byt 6] (by rfl) Tryd.underlying30 Tryd.underlying5 Tryd.underlying9 (blk_new _ _ _ _ _ ?hg1 (one_byte _ _ (byt_small 6 (by omega)))) ?hs1 (by rfl) ?_; (case hs1 => simp); (case hg1 => simp)))
  obtain ⟨z0, z1, z2, z3, z4, z5, z6⟩ := (show Bx ((w.alloc (.cells #[.int .u8 6, V64 n, S text, .slice da draws.length dc, .int .i64 names, .slice a k kc, .slice b m mc] 32)).alloc (.cells #[.int .u8 6] 5)) w.heap.size 32 #[.int .u8 6, V64 n, S text, .slice da draws.length dc, .int .i64 names, .slice a k kc, .slice b m mc] from hx1).seven
  have hadd1 : ¬ 9223372036854775807 < [P.byt 6].length + R0.length := by simp; omega
  have hadd2 : ¬ 9223372036854775807 < ([P.byt 6] ++ R0).length + C0.length := by simp; omega
  have hadd3 : ¬ 9223372036854775807 < [P.byt 6].length + R0.length + C0.length := by simp; omega
  generalize hA0 : [P.byt 6] = A0 at *
  have HA0 := Lib.hid hA0
  clear hA0
  refine wp_region_held_drew (S := fun wx => Below ((w.alloc (.cells #[.int .u8 6, V64 n, S text, .slice da draws.length dc, .int .i64 names, .slice a k kc, .slice b m mc] 32)).alloc (.cells #[.int .u8 6] 5)).heap.size ((w.alloc (.cells #[.int .u8 6, V64 n, S text, .slice da draws.length dc, .int .i64 names, .slice a k kc, .slice b m mc] 32)).alloc (.cells #[.int .u8 6] 5)) wx) (by kernel_rfl) (Below.refl _ _).drew (fun hHeld => ?_)
  refine wpAnyH_take (i := 0) (v := ?_) rfl (by kernel_rfl) (by kernel_rfl) (by kernel_rfl) (fun _ _ _ h => h) (Or.inl ⟨by rfl, ?_⟩) hHeld ?_
  rotate_left
  · intro wq hSw; go_simp; (try with_reducible rfl)
  simp only [Act.put, List.getElem_toArray, List.getElem_cons_succ, List.getElem_cons_zero, List.setIfInBounds_toArray, List.set_cons_zero, List.set_cons_succ]
  refine wpAnyH_take (i := 1) (v := ?_) rfl (by kernel_rfl) (by kernel_rfl) (by kernel_rfl) (fun _ _ _ h => h) (Or.inl ⟨by rfl, ?_⟩) hHeld ?_
  rotate_left
  · intro wq hSw; go_simp; (try with_reducible rfl)
  simp only [Act.put, List.getElem_toArray, List.getElem_cons_succ, List.getElem_cons_zero, List.setIfInBounds_toArray, List.set_cons_zero, List.set_cons_succ]
  refine wpAnyH_take (i := 2) (v := ?_) rfl (by kernel_rfl) (by kernel_rfl) (by kernel_rfl) (fun _ _ _ h => h) (Or.inl ⟨by rfl, ?_⟩) hHeld ?_
  rotate_left
  · intro wq hSw; have q0 := cell_up hSw z0; have q1 := cell_up hSw z1; have q2 := cell_up hSw z2; have q3 := cell_up hSw z3; have q4 := cell_up hSw z4; have q5 := cell_up hSw z5; have q6 := cell_up hSw z6; go_simp; (try with_reducible rfl)
  simp only [Act.put, List.getElem_toArray, List.getElem_cons_succ, List.getElem_cons_zero, List.setIfInBounds_toArray, List.set_cons_zero, List.set_cons_succ]
  refine wpAnyH_take (i := 5) (v := ?_) rfl (by kernel_rfl) (by kernel_rfl) (by kernel_rfl) (fun _ _ _ h => h) (Or.inl ⟨by rfl, ?_⟩) hHeld ?_
  rotate_left
  · intro wq hSw; go_simp; (try with_reducible rfl)
  simp only [Act.put, List.getElem_toArray, List.getElem_cons_succ, List.getElem_cons_zero, List.setIfInBounds_toArray, List.set_cons_zero, List.set_cons_succ]
  refine wpAnyH_take (i := 6) (v := ?_) rfl (by kernel_rfl) (by kernel_rfl) (by kernel_rfl) (fun _ _ _ h => h) (Or.inl ⟨by rfl, ?_⟩) hHeld ?_
  rotate_left
  · intro wq hSw; have q0 := cell_up hSw z0; have q1 := cell_up hSw z1; have q2 := cell_up hSw z2; have q3 := cell_up hSw z3; have q4 := cell_up hSw z4; have q5 := cell_up hSw z5; have q6 := cell_up hSw z6; go_simp; (try with_reducible rfl)
  simp only [Act.put, List.getElem_toArray, List.getElem_cons_succ, List.getElem_cons_zero, List.setIfInBounds_toArray, List.set_cons_zero, List.set_cons_succ]
  refine wpAnyH_by (byR A0 R0 C0) (fun wx wy => Below wx.heap.size wx wy) [(3, some 44), (4, some 45), (7, some 48), (8, some 49), (9, some 2)] 0 rfl (by kernel_rfl) (by kernel_rfl) (by kernel_rfl) (by kernel_rfl) (by kernel_rfl) (by kernel_rfl) (by kernel_rfl) (byR_up A0 R0 C0) hHeld ?_ ?_
  · skip
    refine StepsI.skip (by kernel_rfl) ?_
    refine StepsI.skip (by kernel_rfl) ?_
    refine StepsI.skip (by kernel_rfl) ?_
    refine StepsI.cons (fun vals wx hS hd K hK => ?_) ?_
    · simp only [fillA, Act.put, List.setIfInBounds_toArray, List.set_cons_zero, List.set_cons_succ] at hK ⊢
      go_simp
      (with_reducible refine (HR.out _).mono ?_)
      rintro e1 w6 ⟨rfl, hb6⟩
      exact hK.out _ _ rfl (Chain.up hS hb6) hb6
    refine StepsI.cons (fun vals wx hS hd K hK => ?_) ?_
    · simp only [fillA, Act.put, List.setIfInBounds_toArray, List.set_cons_zero, List.set_cons_succ] at hK ⊢
      have h1 : vals 3 = S R0 := hd 3 (some 44) (by decide) (by kernel_rfl)
      simp only [h1] at hK ⊢
      go_simp
      exact hK.out _ _ rfl hS (Below.refl _ _)
    refine StepsI.skip (by kernel_rfl) ?_
    refine StepsI.skip (by kernel_rfl) ?_
    refine StepsI.cons (fun vals wx hS hd K hK => ?_) ?_
    · simp only [fillA, Act.put, List.setIfInBounds_toArray, List.set_cons_zero, List.set_cons_succ] at hK ⊢
      go_simp
      (with_reducible refine (HC.out _ (Chain.up hb1 hS)).mono ?_)
      rintro e1 w6 ⟨rfl, hb6⟩
      exact hK.out _ _ rfl (Chain.up hS hb6) hb6
    refine StepsI.cons (fun vals wx hS hd K hK => ?_) ?_
    · simp only [fillA, Act.put, List.setIfInBounds_toArray, List.set_cons_zero, List.set_cons_succ] at hK ⊢
      have h1 : vals 4 = S (A0 ++ R0) := hd 4 (some 45) (by decide) (by kernel_rfl)
      have h2 : vals 7 = S C0 := hd 7 (some 48) (by decide) (by kernel_rfl)
      simp only [h1, h2] at hK ⊢
      go_simp
      exact hK.out _ _ rfl hS (Below.refl _ _)
    refine StepsI.cons (fun vals wx hS hd K hK => ?_) ?_
    · simp only [fillA, Act.put, List.setIfInBounds_toArray, List.set_cons_zero, List.set_cons_succ] at hK ⊢
      have h1 : vals 8 = S (A0 ++ (R0 ++ C0)) := hd 8 (some 49) (by decide) (by kernel_rfl)
      simp only [h1] at hK ⊢
      go_simp
      exact hK.out _ _ rfl hS (Below.refl _ _)
    exact StepsI.nil
  intro vals wx hS hR
  have hv : vals 9 = S (A0 ++ (R0 ++ C0)) := hR (9, some 2) (by decide)
  refine wpAnyH_done (by kernel_rfl) ?_ _
  simp only [fillA, Act.put, List.setIfInBounds_toArray, List.set_cons_zero, List.set_cons_succ, hv]
  clear hR
  generalize vals 3 = v3
  generalize vals 4 = v4
  generalize vals 7 = v7
  generalize vals 8 = v8
  have hb2 := Chain.up hb1 hS
  clear hHeld hS
  go_wp2_with fail
  go_ret
  exact ⟨by rw [Hact.out, List.append_assoc]; rfl, hb2⟩

set_option maxRecDepth 100000 in
set_option maxHeartbeats 16000000 in
theorem refBytes_7 (r : AcR) (hkind : r.x.kind = 7) (w : World) (hr : P.rightB r.x = true) (hty : P.tyAc r.x) (ht : r.x.text.length ≤ 20000) (hat : AcAt w r) :
    Calls Tryd.prog 25 #[acV r.x.kind r.x.n r.x.text r.da r.x.draws.length r.dc r.x.cr.names r.a r.x.cr.keep.length r.k r.b r.x.cr.spoil.length r.m] w fun e w' => e = .returned (S (P.actB r.x)) ∧ Below w.heap.size w w' := by
  obtain ⟨⟨kind, n, text, draws, ⟨names, keep, spoil⟩⟩, da, dc, a, kc, b, mc⟩ := r
  simp only at hkind hr hty ht hat ⊢
  subst hkind
  obtain ⟨g1, g2, g3, g4, g5, g6, g7, g8⟩ := P.right_kind hr
  obtain ⟨t1, t2, t3⟩ := hty
  obtain ⟨a1, a2, a3⟩ := hat
  simp only at g1 g2 g3 g4 g5 g6 g7 g8 t1 t2 t3 a1 a2 a3
  have HC := Lib.hid (fun wx (hx : Below w.heap.size w wx) => refCrash_any ⟨names, keep, spoil⟩ a b keep.length kc spoil.length mc rfl rfl g4 t3 wx (a3.up hx))
  have hx0 := Bx.fresh w 32 #[.int .u8 7, V64 n, S text, .slice da draws.length dc, .int .i64 names, .slice a keep.length kc, .slice b spoil.length mc]
  have hb0 : Below w.heap.size w (w.alloc (.cells #[.int .u8 7, V64 n, S text, .slice da draws.length dc, .int .i64 names, .slice a keep.length kc, .slice b spoil.length mc] 32)) := (Below.refl _ _).alloc (Nat.le_refl _) _
  have hx1 := hx0.up ((Below.refl _ _).alloc (Nat.le_refl _) (.cells #[.int .u8 7] 5))
  have hb1 := hb0.alloc hb0.size (.cells #[.int .u8 7] 5)
  have A1 := Lib.hid a1
  have A2 := Lib.hid a2
  clear hr g1 g2 g5 g6 g7 g8 a1 a2 a3
  have Hact := Lib.hid (show P.actB ⟨7, n, text, draws, ⟨names, keep, spoil⟩⟩ = [P.byt 7] ++ P.crashB ⟨names, keep, spoil⟩ by unfold P.actB; simp)
  have hcl := P.crashB_le ⟨names, keep, spoil⟩ g4
  generalize P.crashB ⟨names, keep, spoil⟩ = C0 at *
  simp only at HC
  generalize keep.length = k at *
  generalize spoil.length = m at *
  obtain ⟨_, _, _, _, _, _, _⟩ := hx1.seven
  go_enter Tryd.func25, Tryd.ntmps25
  go_wp2_with (first
    | (refine wpList_conv_str 5 5 _ 0 1 1 [P.byt 7] [P.byt 7] (by rfl) Tryd.underlying30 Tryd.underlying5 Tryd.underlying9 (blk_new _ _ _ _ _ ?hg1 (one_byte _ _ (byt_small 7 (by omega)))) ?hs1 (by rfl) ?_; (case hs1 => simp); (case hg1 => simp))
    | (go_at_call 24; (with_reducible refine (HC.out _ hb1).mono ?_); rintro e w3 ⟨rfl, hd3⟩))
  go_ret
  exact ⟨by rw [Hact.out]; rfl, Chain.up hb1 hd3⟩

theorem refBytes_any (r : AcR) (w : World) (hr : P.rightB r.x = true) (hty : P.tyAc r.x) (ht : r.x.text.length ≤ 20000) (hat : AcAt w r) :
    Calls Tryd.prog 25 #[acV r.x.kind r.x.n r.x.text r.da r.x.draws.length r.dc r.x.cr.names r.a r.x.cr.keep.length r.k r.b r.x.cr.spoil.length r.m] w fun e w' => e = .returned (S (P.actB r.x)) ∧ Below w.heap.size w w' := by
  obtain ⟨h1, _⟩ := P.right_kind hr
  obtain h | h | h | h | h | h | h : r.x.kind = 1 ∨ r.x.kind = 2 ∨ r.x.kind = 3 ∨ r.x.kind = 4 ∨ r.x.kind = 5 ∨ r.x.kind = 6 ∨ r.x.kind = 7 := by omega
  · exact refBytes_1 r h w hr hty ht hat
  · exact refBytes_2 r h w hr hty ht hat
  · exact refBytes_3 r h w hr hty ht hat
  · exact refBytes_4 r h w hr hty ht hat
  · exact refBytes_5 r h w hr hty ht hat
  · exact refBytes_6 r h w hr hty ht hat
  · exact refBytes_7 r h w hr hty ht hat
end Go.Proofs.YtnflbgindcejjaaDoor
