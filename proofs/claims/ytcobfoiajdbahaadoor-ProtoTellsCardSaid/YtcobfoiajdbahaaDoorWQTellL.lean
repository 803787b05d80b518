/- The walk of proto.Tell: a look; Bad. -/
import Derived.Test.YtcobfoiajdbahaaDoorWQTell
import Derived.Test.YtcobfoiajdbahaaDoorWQAns
namespace Go.Proofs.YtcobfoiajdbahaaDoor
open Go.RowKit
set_option linter.unusedVariables false
set_option linter.unusedSimpArgs false
theorem P.lkB_le {a : P.An} (h : a.owner.length ≤ 20000) : (P.lkB a).length ≤ 20037 := by
  unfold P.lkB
  have h1 := P.pxX_le a.pool
  have h2 := P.leB_le h a.til
  rw [List.length_cons, List.length_append]
  split <;> split <;> (try simp only [List.length_nil]) <;> omega
theorem orb01 : bits .or .i64 0 1 = 1 := by decide
theorem orb02 : bits .or .i64 0 2 = 2 := by decide
theorem orb12 : bits .or .i64 1 2 = 3 := by decide
theorem orb04 : bits .or .i64 0 4 = 4 := by decide
theorem orb14 : bits .or .i64 1 4 = 5 := by decide
theorem orb24 : bits .or .i64 2 4 = 6 := by decide
theorem orb34 : bits .or .i64 3 4 = 7 := by decide
set_option maxRecDepth 100000 in
set_option maxHeartbeats 16000000 in
theorem wlook_any (g : Nat) (l : List UInt8) (a : P.An) (r : Option Addr) (rc : Nat) (v : Option Addr) (vc : Nat) (p : Option Addr) (pc : Nat) (w : World) (hl : l.length ≤ 700000) (h : Wr w g l) (ho : a.owner.length ≤ 20000) (hta : P.tyAn a) :
    Calls Tryd.prog 64 #[.pointer (some ⟨g, 0, none⟩), anV a r rc v vc p pc] w fun e w' => e = .returned (.tuple #[]) ∧ Wr w' g (l ++ P.lkB a) ∧ Below g w w' ∧ KeptW g w w' := by
  obtain ⟨aa, ow, ti, po, has, held, live, ck, rows, ev, ps⟩ := a
  have hgl := h.lt
  have hne : w.heap.size ≠ g := by omega
  have hti := hta.2.1
  have hpo := hta.2.2.1
  simp only at ho hti hpo
  have hor := Lib.hid (And.intro orb01 (And.intro orb02 (And.intro orb12 (And.intro orb04 (And.intro orb14 (And.intro orb24 orb34))))))
  obtain ⟨o1, o2, o3, o4, o5, o6, o7⟩ := hor.out
  clear hta hor
  cases has <;> cases held <;> cases live
  · have hb0 := Bx.fresh w 36 #[.int .u8 (aa.fam : Nat), V64 aa.hi, V64 aa.lo, S ow, V64 ti, .int .u8 (po.a.fam : Nat), V64 po.a.hi, V64 po.a.lo, .int .i64 po.bits, .bool false, .bool false, .bool false, V64 ck, .slice r rows.length rc, .slice v ev.length vc, .slice p ps.length pc]
    have hA := (Below.refl w.heap.size w).alloc (Nat.le_refl _) (.cells #[.int .u8 (aa.fam : Nat), V64 aa.hi, V64 aa.lo, S ow, V64 ti, .int .u8 (po.a.fam : Nat), V64 po.a.hi, V64 po.a.lo, .int .i64 po.bits, .bool false, .bool false, .bool false, V64 ck, .slice r rows.length rc, .slice v ev.length vc, .slice p ps.length pc] 36)
    have hW0 := h.up hA
    obtain ⟨⟨-, -, -, -, -, -, -, -, -, c9, c10, c11, -⟩, -⟩ := hb0.cells16
    obtain ⟨L1, hL1⟩ : ∃ L, L = l ++ [P.byI 0] := ⟨_, rfl⟩
    have hl1 : L1.length ≤ 700001 := by rw [hL1, List.length_append]; simp only [List.length_singleton]; omega
    have H1 := Lib.hid (fun wx (h : Wr wx g l) => show Calls Tryd.prog 36 #[.pointer (some ⟨g, 0, none⟩), .int .i64 0] wx fun e w' => e = .returned (.tuple #[]) ∧ Wr w' g L1 ∧ Below g wx w' ∧ KeptW g wx w' from by rw [hL1]; exact wbyte_any g l 0 wx (by omega) h)
    have Hres := Lib.hid (show L1 = l ++ P.lkB ⟨aa, ow, ti, po, false, false, false, ck, rows, ev, ps⟩ by rw [hL1]; simp [P.lkB, P.lkN]; rfl)
    clear hL1
    go_enter Tryd.func64, Tryd.ntmps64
    go_wp2_with (first
      | (go_at_call 36; (with_reducible refine (H1.out _ hW0).mono ?_); rintro e w2 ⟨rfl, hW2, hb2, hk2⟩; have hx2 := hb0.keptW hk2 (by decide) hne; have hd2 := (hA.mono (Nat.le_of_lt hgl)).trans hb2; have hkk2 := (KeptW.of hA).trans hk2; obtain ⟨⟨-, -, -, c3, c4, c5, c6, c7, c8, c9, c10, c11, -⟩, -⟩ := hx2.cells16))
    go_end0
    exact ⟨rfl, by rw [← Hres.out]; exact hW2, hd2, hkk2⟩
  · have hb0 := Bx.fresh w 36 #[.int .u8 (aa.fam : Nat), V64 aa.hi, V64 aa.lo, S ow, V64 ti, .int .u8 (po.a.fam : Nat), V64 po.a.hi, V64 po.a.lo, .int .i64 po.bits, .bool false, .bool false, .bool true, V64 ck, .slice r rows.length rc, .slice v ev.length vc, .slice p ps.length pc]
    have hA := (Below.refl w.heap.size w).alloc (Nat.le_refl _) (.cells #[.int .u8 (aa.fam : Nat), V64 aa.hi, V64 aa.lo, S ow, V64 ti, .int .u8 (po.a.fam : Nat), V64 po.a.hi, V64 po.a.lo, .int .i64 po.bits, .bool false, .bool false, .bool true, V64 ck, .slice r rows.length rc, .slice v ev.length vc, .slice p ps.length pc] 36)
    have hW0 := h.up hA
    obtain ⟨⟨-, -, -, -, -, -, -, -, -, c9, c10, c11, -⟩, -⟩ := hb0.cells16
    obtain ⟨L1, hL1⟩ : ∃ L, L = l ++ [P.byI 4] := ⟨_, rfl⟩
    have hl1 : L1.length ≤ 700001 := by rw [hL1, List.length_append]; simp only [List.length_singleton]; omega
    have H1 := Lib.hid (fun wx (h : Wr wx g l) => show Calls Tryd.prog 36 #[.pointer (some ⟨g, 0, none⟩), .int .i64 4] wx fun e w' => e = .returned (.tuple #[]) ∧ Wr w' g L1 ∧ Below g wx w' ∧ KeptW g wx w' from by rw [hL1]; exact wbyte_any g l 4 wx (by omega) h)
    obtain ⟨L3, hL3⟩ : ∃ L, L = L1 ++ P.leB ow ti := ⟨_, rfl⟩
    have H3 := Lib.hid (fun wx (h : Wr wx g L1) => show Calls Tryd.prog 63 #[.pointer (some ⟨g, 0, none⟩), .agg #[S ow, V64 ti]] wx fun e w' => e = .returned (.tuple #[]) ∧ Wr w' g L3 ∧ Below g wx w' ∧ KeptW g wx w' from by rw [hL3]; exact wlease_any g L1 (ow, ti) wx (by omega) h ho hti)
    have Hres := Lib.hid (show L3 = l ++ P.lkB ⟨aa, ow, ti, po, false, false, true, ck, rows, ev, ps⟩ by rw [hL3, hL1]; simp [P.lkB, P.lkN]; rfl)
    clear hL3 hL1
    go_enter Tryd.func64, Tryd.ntmps64
    go_wp2_with (first
      | (go_at_call 36; (with_reducible refine (H1.out _ hW0).mono ?_); rintro e w2 ⟨rfl, hW2, hb2, hk2⟩; have hx2 := hb0.keptW hk2 (by decide) hne; have hd2 := (hA.mono (Nat.le_of_lt hgl)).trans hb2; have hkk2 := (KeptW.of hA).trans hk2; obtain ⟨⟨-, -, -, c3, c4, c5, c6, c7, c8, c9, c10, c11, -⟩, -⟩ := hx2.cells16)
      | (go_at_call 63; (with_reducible refine (H3.out _ hW2).mono ?_); rintro e w4 ⟨rfl, hW4, hb4, hk4⟩; have hd4 := hd2.trans hb4; have hkk4 := hkk2.trans hk4))
    go_end0
    exact ⟨rfl, by rw [← Hres.out]; exact hW4, hd4, hkk4⟩
  · have hb0 := Bx.fresh w 36 #[.int .u8 (aa.fam : Nat), V64 aa.hi, V64 aa.lo, S ow, V64 ti, .int .u8 (po.a.fam : Nat), V64 po.a.hi, V64 po.a.lo, .int .i64 po.bits, .bool false, .bool true, .bool false, V64 ck, .slice r rows.length rc, .slice v ev.length vc, .slice p ps.length pc]
    have hA := (Below.refl w.heap.size w).alloc (Nat.le_refl _) (.cells #[.int .u8 (aa.fam : Nat), V64 aa.hi, V64 aa.lo, S ow, V64 ti, .int .u8 (po.a.fam : Nat), V64 po.a.hi, V64 po.a.lo, .int .i64 po.bits, .bool false, .bool true, .bool false, V64 ck, .slice r rows.length rc, .slice v ev.length vc, .slice p ps.length pc] 36)
    have hW0 := h.up hA
    obtain ⟨⟨-, -, -, -, -, -, -, -, -, c9, c10, c11, -⟩, -⟩ := hb0.cells16
    obtain ⟨L1, hL1⟩ : ∃ L, L = l ++ [P.byI 2] := ⟨_, rfl⟩
    have hl1 : L1.length ≤ 700001 := by rw [hL1, List.length_append]; simp only [List.length_singleton]; omega
    have H1 := Lib.hid (fun wx (h : Wr wx g l) => show Calls Tryd.prog 36 #[.pointer (some ⟨g, 0, none⟩), .int .i64 2] wx fun e w' => e = .returned (.tuple #[]) ∧ Wr w' g L1 ∧ Below g wx w' ∧ KeptW g wx w' from by rw [hL1]; exact wbyte_any g l 2 wx (by omega) h)
    have Hres := Lib.hid (show L1 = l ++ P.lkB ⟨aa, ow, ti, po, false, true, false, ck, rows, ev, ps⟩ by rw [hL1]; simp [P.lkB, P.lkN]; rfl)
    clear hL1
    go_enter Tryd.func64, Tryd.ntmps64
    go_wp2_with (first
      | (go_at_call 36; (with_reducible refine (H1.out _ hW0).mono ?_); rintro e w2 ⟨rfl, hW2, hb2, hk2⟩; have hx2 := hb0.keptW hk2 (by decide) hne; have hd2 := (hA.mono (Nat.le_of_lt hgl)).trans hb2; have hkk2 := (KeptW.of hA).trans hk2; obtain ⟨⟨-, -, -, c3, c4, c5, c6, c7, c8, c9, c10, c11, -⟩, -⟩ := hx2.cells16))
    go_end0
    exact ⟨rfl, by rw [← Hres.out]; exact hW2, hd2, hkk2⟩
  · have hb0 := Bx.fresh w 36 #[.int .u8 (aa.fam : Nat), V64 aa.hi, V64 aa.lo, S ow, V64 ti, .int .u8 (po.a.fam : Nat), V64 po.a.hi, V64 po.a.lo, .int .i64 po.bits, .bool false, .bool true, .bool true, V64 ck, .slice r rows.length rc, .slice v ev.length vc, .slice p ps.length pc]
    have hA := (Below.refl w.heap.size w).alloc (Nat.le_refl _) (.cells #[.int .u8 (aa.fam : Nat), V64 aa.hi, V64 aa.lo, S ow, V64 ti, .int .u8 (po.a.fam : Nat), V64 po.a.hi, V64 po.a.lo, .int .i64 po.bits, .bool false, .bool true, .bool true, V64 ck, .slice r rows.length rc, .slice v ev.length vc, .slice p ps.length pc] 36)
    have hW0 := h.up hA
    obtain ⟨⟨-, -, -, -, -, -, -, -, -, c9, c10, c11, -⟩, -⟩ := hb0.cells16
    obtain ⟨L1, hL1⟩ : ∃ L, L = l ++ [P.byI 6] := ⟨_, rfl⟩
    have hl1 : L1.length ≤ 700001 := by rw [hL1, List.length_append]; simp only [List.length_singleton]; omega
    have H1 := Lib.hid (fun wx (h : Wr wx g l) => show Calls Tryd.prog 36 #[.pointer (some ⟨g, 0, none⟩), .int .i64 6] wx fun e w' => e = .returned (.tuple #[]) ∧ Wr w' g L1 ∧ Below g wx w' ∧ KeptW g wx w' from by rw [hL1]; exact wbyte_any g l 6 wx (by omega) h)
    obtain ⟨L3, hL3⟩ : ∃ L, L = L1 ++ P.leB ow ti := ⟨_, rfl⟩
    have H3 := Lib.hid (fun wx (h : Wr wx g L1) => show Calls Tryd.prog 63 #[.pointer (some ⟨g, 0, none⟩), .agg #[S ow, V64 ti]] wx fun e w' => e = .returned (.tuple #[]) ∧ Wr w' g L3 ∧ Below g wx w' ∧ KeptW g wx w' from by rw [hL3]; exact wlease_any g L1 (ow, ti) wx (by omega) h ho hti)
    have Hres := Lib.hid (show L3 = l ++ P.lkB ⟨aa, ow, ti, po, false, true, true, ck, rows, ev, ps⟩ by rw [hL3, hL1]; simp [P.lkB, P.lkN]; rfl)
    clear hL3 hL1
    go_enter Tryd.func64, Tryd.ntmps64
    go_wp2_with (first
      | (go_at_call 36; (with_reducible refine (H1.out _ hW0).mono ?_); rintro e w2 ⟨rfl, hW2, hb2, hk2⟩; have hx2 := hb0.keptW hk2 (by decide) hne; have hd2 := (hA.mono (Nat.le_of_lt hgl)).trans hb2; have hkk2 := (KeptW.of hA).trans hk2; obtain ⟨⟨-, -, -, c3, c4, c5, c6, c7, c8, c9, c10, c11, -⟩, -⟩ := hx2.cells16)
      | (go_at_call 63; (with_reducible refine (H3.out _ hW2).mono ?_); rintro e w4 ⟨rfl, hW4, hb4, hk4⟩; have hd4 := hd2.trans hb4; have hkk4 := hkk2.trans hk4))
    go_end0
    exact ⟨rfl, by rw [← Hres.out]; exact hW4, hd4, hkk4⟩
  · have hb0 := Bx.fresh w 36 #[.int .u8 (aa.fam : Nat), V64 aa.hi, V64 aa.lo, S ow, V64 ti, .int .u8 (po.a.fam : Nat), V64 po.a.hi, V64 po.a.lo, .int .i64 po.bits, .bool true, .bool false, .bool false, V64 ck, .slice r rows.length rc, .slice v ev.length vc, .slice p ps.length pc]
    have hA := (Below.refl w.heap.size w).alloc (Nat.le_refl _) (.cells #[.int .u8 (aa.fam : Nat), V64 aa.hi, V64 aa.lo, S ow, V64 ti, .int .u8 (po.a.fam : Nat), V64 po.a.hi, V64 po.a.lo, .int .i64 po.bits, .bool true, .bool false, .bool false, V64 ck, .slice r rows.length rc, .slice v ev.length vc, .slice p ps.length pc] 36)
    have hW0 := h.up hA
    obtain ⟨⟨-, -, -, -, -, -, -, -, -, c9, c10, c11, -⟩, -⟩ := hb0.cells16
    obtain ⟨L1, hL1⟩ : ∃ L, L = l ++ [P.byI 1] := ⟨_, rfl⟩
    have hl1 : L1.length ≤ 700001 := by rw [hL1, List.length_append]; simp only [List.length_singleton]; omega
    have H1 := Lib.hid (fun wx (h : Wr wx g l) => show Calls Tryd.prog 36 #[.pointer (some ⟨g, 0, none⟩), .int .i64 1] wx fun e w' => e = .returned (.tuple #[]) ∧ Wr w' g L1 ∧ Below g wx w' ∧ KeptW g wx w' from by rw [hL1]; exact wbyte_any g l 1 wx (by omega) h)
    obtain ⟨L2, hL2⟩ : ∃ L, L = L1 ++ P.pxX po := ⟨_, rfl⟩
    have hl2 : L2.length ≤ 700019 := by rw [hL2, List.length_append]; have := P.pxX_le po; omega
    have H2 := Lib.hid (fun wx (h : Wr wx g L1) => show Calls Tryd.prog 32 #[.pointer (some ⟨g, 0, none⟩), pxV po] wx fun e w' => e = .returned (.tuple #[]) ∧ Wr w' g L2 ∧ Below g wx w' ∧ KeptW g wx w' from by rw [hL2]; exact wprefix_any g L1 po wx (by omega) h hpo)
    have Hres := Lib.hid (show L2 = l ++ P.lkB ⟨aa, ow, ti, po, true, false, false, ck, rows, ev, ps⟩ by rw [hL2, hL1]; simp [P.lkB, P.lkN]; rfl)
    clear hL2 hL1
    go_enter Tryd.func64, Tryd.ntmps64
    go_wp2_with (first
      | (go_at_call 36; (with_reducible refine (H1.out _ hW0).mono ?_); rintro e w2 ⟨rfl, hW2, hb2, hk2⟩; have hx2 := hb0.keptW hk2 (by decide) hne; have hd2 := (hA.mono (Nat.le_of_lt hgl)).trans hb2; have hkk2 := (KeptW.of hA).trans hk2; obtain ⟨⟨-, -, -, c3, c4, c5, c6, c7, c8, c9, c10, c11, -⟩, -⟩ := hx2.cells16)
      | (go_at_call 32; (with_reducible refine (H2.out _ hW2).mono ?_); rintro e w3 ⟨rfl, hW3, hb3, hk3⟩; have hx3 := hx2.keptW hk3 (by decide) hne; have hd3 := hd2.trans hb3; have hkk3 := hkk2.trans hk3; obtain ⟨⟨-, -, -, c3, c4, c5, c6, c7, c8, c9, c10, c11, -⟩, -⟩ := hx3.cells16))
    go_end0
    exact ⟨rfl, by rw [← Hres.out]; exact hW3, hd3, hkk3⟩
  · have hb0 := Bx.fresh w 36 #[.int .u8 (aa.fam : Nat), V64 aa.hi, V64 aa.lo, S ow, V64 ti, .int .u8 (po.a.fam : Nat), V64 po.a.hi, V64 po.a.lo, .int .i64 po.bits, .bool true, .bool false, .bool true, V64 ck, .slice r rows.length rc, .slice v ev.length vc, .slice p ps.length pc]
    have hA := (Below.refl w.heap.size w).alloc (Nat.le_refl _) (.cells #[.int .u8 (aa.fam : Nat), V64 aa.hi, V64 aa.lo, S ow, V64 ti, .int .u8 (po.a.fam : Nat), V64 po.a.hi, V64 po.a.lo, .int .i64 po.bits, .bool true, .bool false, .bool true, V64 ck, .slice r rows.length rc, .slice v ev.length vc, .slice p ps.length pc] 36)
    have hW0 := h.up hA
    obtain ⟨⟨-, -, -, -, -, -, -, -, -, c9, c10, c11, -⟩, -⟩ := hb0.cells16
    obtain ⟨L1, hL1⟩ : ∃ L, L = l ++ [P.byI 5] := ⟨_, rfl⟩
    have hl1 : L1.length ≤ 700001 := by rw [hL1, List.length_append]; simp only [List.length_singleton]; omega
    have H1 := Lib.hid (fun wx (h : Wr wx g l) => show Calls Tryd.prog 36 #[.pointer (some ⟨g, 0, none⟩), .int .i64 5] wx fun e w' => e = .returned (.tuple #[]) ∧ Wr w' g L1 ∧ Below g wx w' ∧ KeptW g wx w' from by rw [hL1]; exact wbyte_any g l 5 wx (by omega) h)
    obtain ⟨L2, hL2⟩ : ∃ L, L = L1 ++ P.pxX po := ⟨_, rfl⟩
    have hl2 : L2.length ≤ 700019 := by rw [hL2, List.length_append]; have := P.pxX_le po; omega
    have H2 := Lib.hid (fun wx (h : Wr wx g L1) => show Calls Tryd.prog 32 #[.pointer (some ⟨g, 0, none⟩), pxV po] wx fun e w' => e = .returned (.tuple #[]) ∧ Wr w' g L2 ∧ Below g wx w' ∧ KeptW g wx w' from by rw [hL2]; exact wprefix_any g L1 po wx (by omega) h hpo)
    obtain ⟨L3, hL3⟩ : ∃ L, L = L2 ++ P.leB ow ti := ⟨_, rfl⟩
    have H3 := Lib.hid (fun wx (h : Wr wx g L2) => show Calls Tryd.prog 63 #[.pointer (some ⟨g, 0, none⟩), .agg #[S ow, V64 ti]] wx fun e w' => e = .returned (.tuple #[]) ∧ Wr w' g L3 ∧ Below g wx w' ∧ KeptW g wx w' from by rw [hL3]; exact wlease_any g L2 (ow, ti) wx (by omega) h ho hti)
    have Hres := Lib.hid (show L3 = l ++ P.lkB ⟨aa, ow, ti, po, true, false, true, ck, rows, ev, ps⟩ by rw [hL3, hL2, hL1]; simp [P.lkB, P.lkN]; rfl)
    clear hL3 hL2 hL1
    go_enter Tryd.func64, Tryd.ntmps64
    go_wp2_with (first
      | (go_at_call 36; (with_reducible refine (H1.out _ hW0).mono ?_); rintro e w2 ⟨rfl, hW2, hb2, hk2⟩; have hx2 := hb0.keptW hk2 (by decide) hne; have hd2 := (hA.mono (Nat.le_of_lt hgl)).trans hb2; have hkk2 := (KeptW.of hA).trans hk2; obtain ⟨⟨-, -, -, c3, c4, c5, c6, c7, c8, c9, c10, c11, -⟩, -⟩ := hx2.cells16)
      | (go_at_call 32; (with_reducible refine (H2.out _ hW2).mono ?_); rintro e w3 ⟨rfl, hW3, hb3, hk3⟩; have hx3 := hx2.keptW hk3 (by decide) hne; have hd3 := hd2.trans hb3; have hkk3 := hkk2.trans hk3; obtain ⟨⟨-, -, -, c3, c4, c5, c6, c7, c8, c9, c10, c11, -⟩, -⟩ := hx3.cells16)
      | (go_at_call 63; (with_reducible refine (H3.out _ hW3).mono ?_); rintro e w4 ⟨rfl, hW4, hb4, hk4⟩; have hd4 := hd3.trans hb4; have hkk4 := hkk3.trans hk4))
    go_end0
    exact ⟨rfl, by rw [← Hres.out]; exact hW4, hd4, hkk4⟩
  · have hb0 := Bx.fresh w 36 #[.int .u8 (aa.fam : Nat), V64 aa.hi, V64 aa.lo, S ow, V64 ti, .int .u8 (po.a.fam : Nat), V64 po.a.hi, V64 po.a.lo, .int .i64 po.bits, .bool true, .bool true, .bool false, V64 ck, .slice r rows.length rc, .slice v ev.length vc, .slice p ps.length pc]
    have hA := (Below.refl w.heap.size w).alloc (Nat.le_refl _) (.cells #[.int .u8 (aa.fam : Nat), V64 aa.hi, V64 aa.lo, S ow, V64 ti, .int .u8 (po.a.fam : Nat), V64 po.a.hi, V64 po.a.lo, .int .i64 po.bits, .bool true, .bool true, .bool false, V64 ck, .slice r rows.length rc, .slice v ev.length vc, .slice p ps.length pc] 36)
    have hW0 := h.up hA
    obtain ⟨⟨-, -, -, -, -, -, -, -, -, c9, c10, c11, -⟩, -⟩ := hb0.cells16
    obtain ⟨L1, hL1⟩ : ∃ L, L = l ++ [P.byI 3] := ⟨_, rfl⟩
    have hl1 : L1.length ≤ 700001 := by rw [hL1, List.length_append]; simp only [List.length_singleton]; omega
    have H1 := Lib.hid (fun wx (h : Wr wx g l) => show Calls Tryd.prog 36 #[.pointer (some ⟨g, 0, none⟩), .int .i64 3] wx fun e w' => e = .returned (.tuple #[]) ∧ Wr w' g L1 ∧ Below g wx w' ∧ KeptW g wx w' from by rw [hL1]; exact wbyte_any g l 3 wx (by omega) h)
    obtain ⟨L2, hL2⟩ : ∃ L, L = L1 ++ P.pxX po := ⟨_, rfl⟩
    have hl2 : L2.length ≤ 700019 := by rw [hL2, List.length_append]; have := P.pxX_le po; omega
    have H2 := Lib.hid (fun wx (h : Wr wx g L1) => show Calls Tryd.prog 32 #[.pointer (some ⟨g, 0, none⟩), pxV po] wx fun e w' => e = .returned (.tuple #[]) ∧ Wr w' g L2 ∧ Below g wx w' ∧ KeptW g wx w' from by rw [hL2]; exact wprefix_any g L1 po wx (by omega) h hpo)
    have Hres := Lib.hid (show L2 = l ++ P.lkB ⟨aa, ow, ti, po, true, true, false, ck, rows, ev, ps⟩ by rw [hL2, hL1]; simp [P.lkB, P.lkN]; rfl)
    clear hL2 hL1
    go_enter Tryd.func64, Tryd.ntmps64
    go_wp2_with (first
      | (go_at_call 36; (with_reducible refine (H1.out _ hW0).mono ?_); rintro e w2 ⟨rfl, hW2, hb2, hk2⟩; have hx2 := hb0.keptW hk2 (by decide) hne; have hd2 := (hA.mono (Nat.le_of_lt hgl)).trans hb2; have hkk2 := (KeptW.of hA).trans hk2; obtain ⟨⟨-, -, -, c3, c4, c5, c6, c7, c8, c9, c10, c11, -⟩, -⟩ := hx2.cells16)
      | (go_at_call 32; (with_reducible refine (H2.out _ hW2).mono ?_); rintro e w3 ⟨rfl, hW3, hb3, hk3⟩; have hx3 := hx2.keptW hk3 (by decide) hne; have hd3 := hd2.trans hb3; have hkk3 := hkk2.trans hk3; obtain ⟨⟨-, -, -, c3, c4, c5, c6, c7, c8, c9, c10, c11, -⟩, -⟩ := hx3.cells16))
    go_end0
    exact ⟨rfl, by rw [← Hres.out]; exact hW3, hd3, hkk3⟩
  · have hb0 := Bx.fresh w 36 #[.int .u8 (aa.fam : Nat), V64 aa.hi, V64 aa.lo, S ow, V64 ti, .int .u8 (po.a.fam : Nat), V64 po.a.hi, V64 po.a.lo, .int .i64 po.bits, .bool true, .bool true, .bool true, V64 ck, .slice r rows.length rc, .slice v ev.length vc, .slice p ps.length pc]
    have hA := (Below.refl w.heap.size w).alloc (Nat.le_refl _) (.cells #[.int .u8 (aa.fam : Nat), V64 aa.hi, V64 aa.lo, S ow, V64 ti, .int .u8 (po.a.fam : Nat), V64 po.a.hi, V64 po.a.lo, .int .i64 po.bits, .bool true, .bool true, .bool true, V64 ck, .slice r rows.length rc, .slice v ev.length vc, .slice p ps.length pc] 36)
    have hW0 := h.up hA
    obtain ⟨⟨-, -, -, -, -, -, -, -, -, c9, c10, c11, -⟩, -⟩ := hb0.cells16
    obtain ⟨L1, hL1⟩ : ∃ L, L = l ++ [P.byI 7] := ⟨_, rfl⟩
    have hl1 : L1.length ≤ 700001 := by rw [hL1, List.length_append]; simp only [List.length_singleton]; omega
    have H1 := Lib.hid (fun wx (h : Wr wx g l) => show Calls Tryd.prog 36 #[.pointer (some ⟨g, 0, none⟩), .int .i64 7] wx fun e w' => e = .returned (.tuple #[]) ∧ Wr w' g L1 ∧ Below g wx w' ∧ KeptW g wx w' from by rw [hL1]; exact wbyte_any g l 7 wx (by omega) h)
    obtain ⟨L2, hL2⟩ : ∃ L, L = L1 ++ P.pxX po := ⟨_, rfl⟩
    have hl2 : L2.length ≤ 700019 := by rw [hL2, List.length_append]; have := P.pxX_le po; omega
    have H2 := Lib.hid (fun wx (h : Wr wx g L1) => show Calls Tryd.prog 32 #[.pointer (some ⟨g, 0, none⟩), pxV po] wx fun e w' => e = .returned (.tuple #[]) ∧ Wr w' g L2 ∧ Below g wx w' ∧ KeptW g wx w' from by rw [hL2]; exact wprefix_any g L1 po wx (by omega) h hpo)
    obtain ⟨L3, hL3⟩ : ∃ L, L = L2 ++ P.leB ow ti := ⟨_, rfl⟩
    have H3 := Lib.hid (fun wx (h : Wr wx g L2) => show Calls Tryd.prog 63 #[.pointer (some ⟨g, 0, none⟩), .agg #[S ow, V64 ti]] wx fun e w' => e = .returned (.tuple #[]) ∧ Wr w' g L3 ∧ Below g wx w' ∧ KeptW g wx w' from by rw [hL3]; exact wlease_any g L2 (ow, ti) wx (by omega) h ho hti)
    have Hres := Lib.hid (show L3 = l ++ P.lkB ⟨aa, ow, ti, po, true, true, true, ck, rows, ev, ps⟩ by rw [hL3, hL2, hL1]; simp [P.lkB, P.lkN]; rfl)
    clear hL3 hL2 hL1
    go_enter Tryd.func64, Tryd.ntmps64
    go_wp2_with (first
      | (go_at_call 36; (with_reducible refine (H1.out _ hW0).mono ?_); rintro e w2 ⟨rfl, hW2, hb2, hk2⟩; have hx2 := hb0.keptW hk2 (by decide) hne; have hd2 := (hA.mono (Nat.le_of_lt hgl)).trans hb2; have hkk2 := (KeptW.of hA).trans hk2; obtain ⟨⟨-, -, -, c3, c4, c5, c6, c7, c8, c9, c10, c11, -⟩, -⟩ := hx2.cells16)
      | (go_at_call 32; (with_reducible refine (H2.out _ hW2).mono ?_); rintro e w3 ⟨rfl, hW3, hb3, hk3⟩; have hx3 := hx2.keptW hk3 (by decide) hne; have hd3 := hd2.trans hb3; have hkk3 := hkk2.trans hk3; obtain ⟨⟨-, -, -, c3, c4, c5, c6, c7, c8, c9, c10, c11, -⟩, -⟩ := hx3.cells16)
      | (go_at_call 63; (with_reducible refine (H3.out _ hW3).mono ?_); rintro e w4 ⟨rfl, hW4, hb4, hk4⟩; have hd4 := hd3.trans hb4; have hkk4 := hkk3.trans hk4))
    go_end0
    exact ⟨rfl, by rw [← Hres.out]; exact hW4, hd4, hkk4⟩
set_option maxRecDepth 100000 in
set_option maxHeartbeats 8000000 in
theorem tell_look (x : P.Ca) (a : P.An) (r : Option Addr) (rc : Nat) (v : Option Addr) (vc : Nat) (p : Option Addr) (pc : Nat) (ht : P.tyC x) (hta : P.tyAn a) (ho : a.owner.length ≤ 20000) (hop : x.op = 10) (w : World) :
    Calls Tryd.prog 21 #[caV x, anV a r rc v vc p pc, .int .i64 0] w fun e' w' => e' = .returned (S (P.tellB x.op x.client x.number a 0)) ∧ Below w.heap.size w w' := by
  obtain ⟨hc, ha, hwb, hA⟩ := three_bx w #[.int .u8 (x.op : Nat), .int .u8 (x.client : Nat), V64 x.number, .int .u8 (x.p.a.fam : Nat), V64 x.p.a.hi, V64 x.p.a.lo, .int .i64 x.p.bits, .int .u8 (x.a.fam : Nat), V64 x.a.hi, V64 x.a.lo, S x.owner, S x.to, V64 x.d, V64 x.fr, .int .i64 x.n] #[.int .u8 (a.a.fam : Nat), V64 a.a.hi, V64 a.a.lo, S a.owner, V64 a.til, .int .u8 (a.pool.a.fam : Nat), V64 a.pool.a.hi, V64 a.pool.a.lo, .int .i64 a.pool.bits, .bool a.has, .bool a.held, .bool a.live, V64 a.clock, .slice r a.rows.length rc, .slice v a.events.length vc, .slice p a.pools.length pc] #[.slice none 0 0] 28 36 87
  obtain ⟨L0, hL0⟩ : ∃ L : List UInt8, L = [] := ⟨_, rfl⟩
  have hl0 : L0.length ≤ 0 := by rw [hL0]; exact Nat.le_refl _
  obtain ⟨L1, hL1⟩ : ∃ L, L = L0 ++ [P.byI 0] := ⟨_, rfl⟩
  have hl1 : L1.length ≤ 1 := by rw [hL1, List.length_append]; simp only [List.length_singleton]; omega
  have H1 := Lib.hid (fun wx (h : Wr wx (w.heap.size + 1 + 1) L0) => show Calls Tryd.prog 36 #[.pointer (some ⟨w.heap.size + 1 + 1, 0, none⟩), .int .i64 0] wx fun e w' => e = .returned (.tuple #[]) ∧ Wr w' (w.heap.size + 1 + 1) L1 ∧ Below (w.heap.size + 1 + 1) wx w' ∧ KeptW (w.heap.size + 1 + 1) wx w' from by rw [hL1]; exact wbyte_any _ L0 0 wx (by omega) h)
  obtain ⟨L2, hL2⟩ : ∃ L, L = L1 ++ P.headB x.op x.client x.number := ⟨_, rfl⟩
  have hl2 : L2.length ≤ 11 := by rw [hL2, List.length_append]; have := P.headB_len x.op x.client x.number; omega
  have H2 := Lib.hid (fun wx (h : Wr wx (w.heap.size + 1 + 1) L1) => show Calls Tryd.prog 31 #[.pointer (some ⟨w.heap.size + 1 + 1, 0, none⟩), caV x] wx fun e w' => e = .returned (.tuple #[]) ∧ Wr w' (w.heap.size + 1 + 1) L2 ∧ Below (w.heap.size + 1 + 1) wx w' ∧ KeptW (w.heap.size + 1 + 1) wx w' from by rw [hL2]; exact whead_any _ L1 x wx (by omega) h ht.1 ht.2.1 ht.2.2.1)
  obtain ⟨L3, hL3⟩ : ∃ L, L = L2 ++ P.lkB a := ⟨_, rfl⟩
  have hl3 : L3.length ≤ 20100 := by rw [hL3, List.length_append]; have := P.lkB_le ho; omega
  have H3 := Lib.hid (fun wx (h : Wr wx (w.heap.size + 1 + 1) L2) => show Calls Tryd.prog 64 #[.pointer (some ⟨w.heap.size + 1 + 1, 0, none⟩), anV a r rc v vc p pc] wx fun e w' => e = .returned (.tuple #[]) ∧ Wr w' (w.heap.size + 1 + 1) L3 ∧ Below (w.heap.size + 1 + 1) wx w' ∧ KeptW (w.heap.size + 1 + 1) wx w' from by rw [hL3]; exact wlook_any _ L2 a r rc v vc p pc wx (by omega) h ho hta)
  have Hres := Lib.hid (show L3 = P.tellB x.op x.client x.number a 0 by rw [hL3, hL2, hL1, hL0]; unfold P.tellB P.tailB; simp only [hop]; simp)
  clear hL3 hL2 hL1
  have t5 : ((x.op : Int) == 5) = false := beq_eq_false_iff_ne.2 (by omega)
  have t6 : ((x.op : Int) == 6) = false := beq_eq_false_iff_ne.2 (by omega)
  have t7 : ((x.op : Int) == 7) = false := beq_eq_false_iff_ne.2 (by omega)
  have t10 : ((x.op : Int) == 10) = true := beq_iff_eq.2 (by omega)
  clear hop
  go_enter Tryd.func21, Tryd.ntmps21
  go_upto_region 2 with fail
  generalize hW : ((w.alloc (.cells #[.int .u8 (x.op : Nat), .int .u8 (x.client : Nat), V64 x.number, .int .u8 (x.p.a.fam : Nat), V64 x.p.a.hi, V64 x.p.a.lo, .int .i64 x.p.bits, .int .u8 (x.a.fam : Nat), V64 x.a.hi, V64 x.a.lo, S x.owner, S x.to, V64 x.d, V64 x.fr, .int .i64 x.n] 28)).alloc (.cells #[.int .u8 (a.a.fam : Nat), V64 a.a.hi, V64 a.a.lo, S a.owner, V64 a.til, .int .u8 (a.pool.a.fam : Nat), V64 a.pool.a.hi, V64 a.pool.a.lo, .int .i64 a.pool.bits, .bool a.has, .bool a.held, .bool a.live, V64 a.clock, .slice r a.rows.length rc, .slice v a.events.length vc, .slice p a.pools.length pc] 36)).alloc (.cells #[.slice none 0 0] 87) = w1 at *
  clear hW
  have hW0 : Wr w1 (w.heap.size + 1 + 1) L0 := by rw [hL0]; exact ⟨none, 0, hwb, own_nil _ _⟩
  clear hwb
  go_wp2_with (first
    | (go_at_call 36; (with_reducible refine (H1.out _ hW0).mono ?_); rintro e w2 ⟨rfl, hW1, hb1, -⟩; have hc1 := hc.below hb1 (by omega); have ha1 := ha.below hb1 (by omega); have hA1 := hA.trans (hb1.mono (by omega)); obtain ⟨⟨c0, c1, c2, c3, c4, c5, c6, c7, c8, c9, c10, c11, c12, c13, c14⟩, -⟩ := hc1.cells15; skip)
    | (go_at_call 31; (with_reducible refine (H2.out _ hW1).mono ?_); rintro e w3 ⟨rfl, hW2, hb2, -⟩; have hc2 := hc1.below hb2 (by omega); have ha2 := ha1.below hb2 (by omega); have hA2 := hA1.trans (hb2.mono (by omega)); obtain ⟨⟨c0, -, -, -, -, -, -, -, -, -, -, -, -, -, -⟩, -⟩ := hc2.cells15; skip)
    | (refine wpList_ldB (by rfl) _ _ (by rfl) ha2 (by rfl) structAns 16 infoAns (by rfl) ?_)
    | (go_at_call 64; (with_reducible refine (H3.out _ hW2).mono ?_); rintro e w4 ⟨rfl, hW3, hb3, -⟩; have hc3 := hc2.below hb3 (by omega); have ha3 := ha2.below hb3 (by omega); have hA3 := hA2.trans (hb3.mono (by omega)); obtain ⟨sa, sc, hwx, hwo⟩ := hW3; have q0 := hwx.cell 0; skip)
    | (refine wpList_conv_own (by rfl) hwo ?_))
  go_ret
  exact ⟨by rw [Hres.out]; rfl, hA3⟩
end Go.Proofs.YtcobfoiajdbahaaDoor
