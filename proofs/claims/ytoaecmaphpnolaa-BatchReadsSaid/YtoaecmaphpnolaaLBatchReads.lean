/- The walk of BatchReads: it answers true. -/
import Derived.Test.YtoaecmaphpnolaaWLaw6
import Derived.Deep.RegionHeld3
namespace Go.Proofs.Ytoaecmaphpnolaa
open Go.RowKit
set_option linter.unusedVariables false

attribute [local go_sem] str_take

set_option maxRecDepth 100000 in
set_option maxHeartbeats 4000000 in
theorem law_reads0 (s : List UInt8) (w : World) (hs : s.length ≤ 12000) :
    Calls Try.prog 5 #[S s] w fun e w' => e = .returned (.bool true) ∧ Below w.heap.size w w' := by
  have HD := Lib.hid (fun wx => decode_v s wx (by omega))
  have HR := Lib.hid (fun wx => refDecode_v s wx (by omega))
  have hl16 := P.dl_len s
  generalize P.dok s = ok at *
  generalize P.dl s = l at *
  generalize P.dq s = q at *
  have hsi : (s.length : Int) ≤ 12000 := by omega
  generalize hn : l.length = n at *
  have Hn := Lib.hid hn
  clear hn
  go_enter Try.func5, Try.ntmps5
  go_wp2_with (first
    | (go_at_call 12; (with_reducible refine (HD.out _).mono ?_); rintro e w1 ⟨⟨a1, c1, rfl, hops1⟩, hb1⟩)
    | (go_at_call 21; (with_reducible refine (HR.out _).mono ?_); rintro e w2 ⟨⟨a2, c2, rfl, hops2⟩, hb2⟩))
  have hbx1 := (Bx.fresh w1 27 #[.int .u64 (q : Int), .slice a1 l.length c1]).up hb2
  have hbx2 := Bx.fresh w2 43 #[.int .u64 (q : Int), .slice a2 l.length c2]
  have hc2 := Chain.up hb1 (((Below.refl w1.heap.size w1).alloc (Nat.le_refl _) (.cells #[.int .u64 (q : Int), .slice a1 l.length c1] 27)).trans (hb2.mono (by simp)))
  have hop1 := hops1.up (((Below.refl w1.heap.size w1).alloc (Nat.le_refl _) (.cells #[.int .u64 (q : Int), .slice a1 l.length c1] 27)).trans (hb2.mono (by simp)))
  have hba := (Below.refl w2.heap.size w2).alloc (Nat.le_refl _) (.cells #[.int .u64 (q : Int), .slice a2 l.length c2] 43)
  have hc3 := Chain.up hc2 hba
  have hp1 := hop1.up hba
  have hp2 := hops2.up hba
  have hbx3 := hbx1.up hba
  obtain ⟨x0, x1, _, _⟩ := hbx3.two
  obtain ⟨z0, z1, _, _⟩ := hbx2.two
  clear hb1 hb2 hops1 hops2 hbx1 hop1 hc2 hba hbx2 hbx3
  generalize w2.alloc (.cells #[.int .u64 (q : Int), .slice a2 l.length c2] 43) = w3 at *
  have hb0 := (Below.refl w3.heap.size w3).drew
  go_region_held3 (fun wx => Below w3.heap.size w3 wx ∧ wx.cell? ⟨w1.heap.size, 0, none⟩ = some (.int .u64 (q : Int)) ∧ wx.cell? ⟨w1.heap.size, 1, none⟩ = some (.slice a1 l.length c1) ∧ wx.cell? ⟨w2.heap.size, 0, none⟩ = some (.int .u64 (q : Int)) ∧ wx.cell? ⟨w2.heap.size, 1, none⟩ = some (.slice a2 l.length c2))
    (first | exact ⟨hb0, x0, x1, z0, z1⟩ | (go_split_ands; have hK := Chain.up (show Below w3.heap.size w3 _ by assumption) hbL; exact ⟨hK, cell_up hK x0, cell_up hK x1, cell_up hK z0, cell_up hK z1⟩))
    (first
      | (go_at_call 18; (with_reducible refine (given_v _ _ _ _ q ?hz _).mono ?_); (case hz => rfl); rintro e w5 ⟨rfl, hbL⟩)
      | (go_at_call 22; go_split_ands; (with_reducible refine (same_self q l ?hn _ ?hz _ _ ?h1 ?h2 _ _ _ _ _ (hp1.up ?k1) (hp2.up ?k2)).mono ?_); (case hn => have := Hn.out; omega); (case hz => rfl); (case h1 => first | rfl | exact Hn.out.symm); (case h2 => first | rfl | exact Hn.out.symm); (case k1 => assumption); (case k2 => assumption); rintro e w6 ⟨rfl, hbL⟩)
      | (go_at_call 15; (with_reducible refine (awake_any _).mono ?_); rintro e w7 ⟨rfl, hbL⟩))
  go_wp2_with fail
  go_ret
  go_split_ands
  exact ⟨rfl, Chain.up hc3 (show Below w3.heap.size w3 _ by assumption)⟩
set_option maxRecDepth 100000 in
set_option maxHeartbeats 4000000 in
theorem law_reads1 (s s0 : List UInt8) (w : World) (hbig : 12000 < s0.length) (hqs : s0.take 12000 = s) (hs : s.length ≤ 12000) :
    Calls Try.prog 5 #[S s0] w fun e w' => e = .returned (.bool true) ∧ Below w.heap.size w w' := by
  have HD := Lib.hid (fun wx => decode_v s wx (by omega))
  have HR := Lib.hid (fun wx => refDecode_v s wx (by omega))
  have hl16 := P.dl_len s
  generalize P.dok s = ok at *
  generalize P.dl s = l at *
  generalize P.dq s = q at *
  have hsi : (12000 : Int) < (s0.length : Int) := by omega
  have hbi : 12000 ≤ s0.length := by omega
  generalize hn : l.length = n at *
  have Hn := Lib.hid hn
  clear hn
  go_enter Try.func5, Try.ntmps5
  go_wp2_with (first
    | (go_at_call 12; (with_reducible refine (HD.out _).mono ?_); rintro e w1 ⟨⟨a1, c1, rfl, hops1⟩, hb1⟩)
    | (go_at_call 21; (with_reducible refine (HR.out _).mono ?_); rintro e w2 ⟨⟨a2, c2, rfl, hops2⟩, hb2⟩))
  have hbx1 := (Bx.fresh w1 27 #[.int .u64 (q : Int), .slice a1 l.length c1]).up hb2
  have hbx2 := Bx.fresh w2 43 #[.int .u64 (q : Int), .slice a2 l.length c2]
  have hc2 := Chain.up hb1 (((Below.refl w1.heap.size w1).alloc (Nat.le_refl _) (.cells #[.int .u64 (q : Int), .slice a1 l.length c1] 27)).trans (hb2.mono (by simp)))
  have hop1 := hops1.up (((Below.refl w1.heap.size w1).alloc (Nat.le_refl _) (.cells #[.int .u64 (q : Int), .slice a1 l.length c1] 27)).trans (hb2.mono (by simp)))
  have hba := (Below.refl w2.heap.size w2).alloc (Nat.le_refl _) (.cells #[.int .u64 (q : Int), .slice a2 l.length c2] 43)
  have hc3 := Chain.up hc2 hba
  have hp1 := hop1.up hba
  have hp2 := hops2.up hba
  have hbx3 := hbx1.up hba
  obtain ⟨x0, x1, _, _⟩ := hbx3.two
  obtain ⟨z0, z1, _, _⟩ := hbx2.two
  clear hb1 hb2 hops1 hops2 hbx1 hop1 hc2 hba hbx2 hbx3
  generalize w2.alloc (.cells #[.int .u64 (q : Int), .slice a2 l.length c2] 43) = w3 at *
  have hb0 := (Below.refl w3.heap.size w3).drew
  go_region_held3 (fun wx => Below w3.heap.size w3 wx ∧ wx.cell? ⟨w1.heap.size, 0, none⟩ = some (.int .u64 (q : Int)) ∧ wx.cell? ⟨w1.heap.size, 1, none⟩ = some (.slice a1 l.length c1) ∧ wx.cell? ⟨w2.heap.size, 0, none⟩ = some (.int .u64 (q : Int)) ∧ wx.cell? ⟨w2.heap.size, 1, none⟩ = some (.slice a2 l.length c2))
    (first | exact ⟨hb0, x0, x1, z0, z1⟩ | (go_split_ands; have hK := Chain.up (show Below w3.heap.size w3 _ by assumption) hbL; exact ⟨hK, cell_up hK x0, cell_up hK x1, cell_up hK z0, cell_up hK z1⟩))
    (first
      | (go_at_call 18; (with_reducible refine (given_v _ _ _ _ q ?hz _).mono ?_); (case hz => rfl); rintro e w5 ⟨rfl, hbL⟩)
      | (go_at_call 22; go_split_ands; (with_reducible refine (same_self q l ?hn _ ?hz _ _ ?h1 ?h2 _ _ _ _ _ (hp1.up ?k1) (hp2.up ?k2)).mono ?_); (case hn => have := Hn.out; omega); (case hz => rfl); (case h1 => first | rfl | exact Hn.out.symm); (case h2 => first | rfl | exact Hn.out.symm); (case k1 => assumption); (case k2 => assumption); rintro e w6 ⟨rfl, hbL⟩)
      | (go_at_call 15; (with_reducible refine (awake_any _).mono ?_); rintro e w7 ⟨rfl, hbL⟩))
  go_wp2_with fail
  go_ret
  go_split_ands
  exact ⟨rfl, Chain.up hc3 (show Below w3.heap.size w3 _ by assumption)⟩
theorem law_reads (s : List UInt8) (w : World) (_hs : s.length ≤ 9223372036854775807) :
    Calls Try.prog 5 #[S s] w fun e w' => e = .returned (.bool true) ∧ Below w.heap.size w w' := by
  by_cases h : s.length ≤ 12000
  · exact law_reads0 s w h
  · exact law_reads1 (s.take 12000) s w (by omega) rfl (by rw [List.length_take]; omega)
end Go.Proofs.Ytoaecmaphpnolaa
