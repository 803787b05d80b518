/- FrameLong: a record of MaxRecord bytes is written, and read; one of a byte more is not. The walk of the law. -/
import Derived.Test.YtmfabbncoekjhaaDoorLFrameKnown
import Derived.Deep.OwnRows
import Derived.Deep.RegionWith
import Derived.StillTailTactics
namespace Go.Proofs.YtmfabbncoekjhaaDoor
open Go.RowKit
set_option linter.unusedVariables false

/-- The bytes while they are laid: k of n are there. -/
def laid (n k : Nat) : List UInt8 := (List.range k).map (fun i => P.byt (i % 251)) ++ List.replicate (n - k) 0
theorem laid_length (n k : Nat) (h : k ≤ n) : (laid n k).length = n := by simp [laid]; omega
theorem laid_next (n k : Nat) (h : k < n) : (laid n k).set k (P.byt (k % 251)) = laid n (k + 1) := by
  unfold laid
  rw [List.set_append_right k _ (by simp), List.length_map, List.length_range, Nat.sub_self, show n - k = (n - (k + 1)) + 1 by omega, List.replicate_succ, List.set_cons_zero, List.range_succ, List.map_append, List.append_assoc]
  rfl
theorem made_bytes (n : Nat) : madeCells #[Value.int .u8 0] n = bytesV (laid n 0) := by
  rw [← Array.toList_inj, toList_madeCells_one]
  simp [bytesV, laid, u8V]
theorem blk_made (w : World) (n : Nat) : Blk (w.alloc (.cells (madeCells #[Value.int .u8 0] n) 5)) w.heap.size 5 (laid n 0) := blk_lit rfl (made_bytes n)
theorem mod_byt (k : Nat) : IntKind.u8.wrap ((k : Int) % 251) = ((P.byt (k % 251)).toNat : Int) := by
  rw [← u8_wrap_nat]
  simp

set_option maxRecDepth 100000 in
set_option maxHeartbeats 4000000 in
theorem law_long (w : World) (ht : TabOk w) :
    Calls Tryd.prog 4 #[] w fun e w' => e = .returned (.bool true) ∧ Below w.heap.size w w' := by
  have hmk : (Instr.makeSlice 30 (.int .i64 524289) (.int .i64 524289)).run Tryd.prog w = .ok (.slice (some ⟨w.heap.size, 0, none⟩) 524289 524289) (w.alloc (.cells (madeCells #[Value.int .u8 0] 524289) 5)) :=
    run_make_row' 30 5 (.int .u8 0) 1 Tryd.underlying30 info_byte rfl .i64 .i64 524289 (by omega) (by omega) w
  have hb0 := Lib.hid (blk_made w 524289)
  generalize madeCells #[Value.int .u8 0] 524289 = cs at *
  go_enter Tryd.func4, Tryd.ntmps4
  go_wp2_with fail
  clear hmk
  go_loopw [2] (fun i wr => ∃ k : Nat, k ≤ 524289 ∧ i = .int .i64 k ∧ Blk wr w.heap.size 5 (laid 524289 k) ∧ Below w.heap.size w wr) (fun i _ => 524289 - (intOf i).toNat)
  case atStart => exact ⟨0, by omega, rfl, hb0.out, (Below.refl _ _).alloc (Nat.le_refl _) _⟩
  case round =>
    clear hb0
    obtain ⟨k, hk, rfl, hblk, hb⟩ := hrel
    have hll := laid_length 524289 k hk
    by_cases hlt : k < 524289
    · have hc := hblk.cell k (by omega)
      have hf := hblk.frozen k
      have Hset := Lib.hid (hblk.set k (P.byt (k % 251)))
      rw [laid_next 524289 k hlt] at Hset
      have hv := mod_byt k
      have hki : (k : Int) < 524289 := by omega
      generalize ((laid 524289 k)[k]'(by omega)).toNat = c0 at *
      clear hblk
      go_wp2_with fail
      go_roundw
      case rel => exact ⟨k + 1, by omega, by go_num, Hset.out, hb.setCell (Nat.le_refl _) _⟩
      case measure => simp [intOf]; omega
    · obtain rfl : k = 524289 := by omega
      generalize laid 524289 524289 = B at *
      have hP1 : (B.take 524288).length = 524288 := by rw [List.length_take, hll]; rfl
      have hok1 : P.fok [[120], B.take 524288] = true := (P.fok_iff _).2 (fun r hr => by
        rcases List.mem_cons.1 hr with rfl | hr
        · simp
        · obtain rfl := List.mem_singleton.1 hr; omega)
      have hok2 : P.fok [[120], B] = false := by
        cases h : P.fok [[120], B] with
        | false => rfl
        | true => have := (P.fok_iff _).1 h B (by simp); omega
      have HW1 := Lib.hid (fun wx (hx : TabOk wx) => writeF_any (some ⟨wx.heap.size, 0, none⟩) 2 [[120], B.take 524288] (wx.alloc (.cells #[S [120], S (B.take 524288)] 9)) (by simp) (strs_new wx _ _ _ rfl) (fun r hr => by have := (P.fok_iff _).1 hok1 r hr; omega) (hx.alloc _))
      have HW2 := Lib.hid (fun wx (hx : TabOk wx) => writeF_any (some ⟨wx.heap.size, 0, none⟩) 2 [[120], B] (wx.alloc (.cells #[S [120], S B] 9)) (by simp) (strs_new wx _ _ _ rfl) (fun r hr => by
        rcases List.mem_cons.1 hr with rfl | hr
        · simp
        · obtain rfl := List.mem_singleton.1 hr; omega) (hx.alloc _))
      rw [show P.fbytes [[120], B.take 524288] = P.frames [[120], B.take 524288] by unfold P.fbytes; rw [hok1]; rfl, show P.ferr [[120], B.take 524288] = 0 by unfold P.ferr; rw [hok1]; rfl, show ([[120], B.take 524288] : List (List UInt8)).length = 2 from rfl] at HW1
      rw [show P.fbytes [[120], B] = [] by unfold P.fbytes; rw [hok2]; rfl, show P.ferr [[120], B] = 3 by unfold P.ferr; rw [hok2]; rfl, show ([[120], B] : List (List UInt8)).length = 2 from rfl] at HW2
      have hfl := P.frames_len [[120], B.take 524288] ((P.fok_iff _).1 hok1)
      have hfl2 : (P.frames [[120], B.take 524288]).length ≤ 2000000 := hfl
      have hfw := P.frames_whole [[120], B.take 524288] [] ((P.fok_iff _).1 hok1) P.one_nil
      rw [List.append_nil] at hfw
      have HR := Lib.hid (fun wx (hx : TabOk wx) => readF_any (P.frames [[120], B.take 524288]) wx (by omega) hx)
      rw [hfw.1, hfw.2, show ([[120], B.take 524288] : List (List UInt8)).length = 2 from rfl] at HR
      have Hd1 := Lib.hid (show (B.drop 0).take 524288 = B.take 524288 by rw [List.drop_zero])
      have Hd2 := Lib.hid (show (B.drop 0).take 524289 = B by rw [List.drop_zero]; exact List.take_of_length_le (by omega))
      generalize P.frames [[120], B.take 524288] = F at *
      generalize hp1 : B.take 524288 = p1 at *
      have Hp1 := Lib.hid hp1
      clear hfw hfl hok1 hok2 hp1
      have Hbl := Lib.hid hll
      clear hll
      go_wp2_with (first
        | ((with_reducible show wpList _ _ _ (⟨_, .convert 30 9 _, _, _, _, _⟩ :: _) _ _); refine wpList_conv_str 5 5 w.heap.size 0 524288 524289 B p1 (by rfl) Tryd.underlying30 Tryd.underlying5 Tryd.underlying9 hblk (by rw [Hbl.out]; omega) Hd1.out ?_)
        | (go_at_call 10; (with_reducible refine (HW1.out _ (ht.up hb)).mono ?_); rintro e w1 ⟨rfl, hb1⟩; have hc1 := Chain.up (hb.alloc hb.size _) hb1; have hblk1 := (hblk.alloc (.cells #[S [120], S p1] 9)).up hb1)
        | ((with_reducible show wpList _ _ _ (⟨_, .convert 30 9 _, _, _, _, _⟩ :: _) _ _); refine wpList_conv_str 5 5 w.heap.size 0 524289 524289 B B (by rfl) Tryd.underlying30 Tryd.underlying5 Tryd.underlying9 hblk1 (by rw [Hbl.out]; omega) Hd2.out ?_)
        | (go_at_call 10; (with_reducible refine (HW2.out _ (ht.up hc1)).mono ?_); rintro e w2 ⟨rfl, hb2⟩; have hc2 := Chain.up (hc1.alloc hc1.size _) hb2; have hblk2 := (hblk1.alloc (.cells #[S [120], S B] 9)).up hb2)
        | (go_at_call 11; (with_reducible refine (HR.out _ (ht.up hc2)).mono ?_); rintro e w3 ⟨a3, c3, rfl, hs3, hb3⟩; have hc3 := Chain.up hc2 hb3; have hblk3 := hblk2.up hb3; obtain ⟨b3, o3, rfl, hlt3, hcell3⟩ := hs3 1 (by simp); have hcell3' : w3.cell? ⟨b3, o3 + 1, none⟩ = some (S p1) := hcell3))
      have hcv : (convert 30 9 (.slice (some ⟨w.heap.size, 0, none⟩) 524288 524289)).run Tryd.prog w3.drew = .ok (S p1) w3.drew := by
        have h := (show Blk w3.drew w.heap.size 5 B from hblk3).string (P := Tryd.prog) 30 9 5 Tryd.underlying30 Tryd.underlying5 Tryd.underlying9 0 524288 524289 (by rw [Hbl.out]; omega)
        rwa [Hd1.out] at h
      have hcell4 : w3.drew.cell? ⟨b3, o3 + 1, none⟩ = some (S p1) := hcell3'
      have htd := ht.up hc3.drew
      clear hblk hblk1 hblk2 hblk3 hs3
      go_still_tail 19, (by kernel_rfl)
      change wpList _ _ _ _ _ w3.drew
      have hcd : Below w.heap.size w w3.drew := hc3.drew
      clear hcv hcell4 hcell3' hcell3
      generalize w3.drew = wd at *
      go_wp2_with (go_at_call 13; (with_reducible refine (awake_any _ htd).mono ?_); rintro e w4 ⟨rfl, hb4⟩)
      go_ret
      exact ⟨rfl, Chain.up hcd hb4⟩
end Go.Proofs.YtmfabbncoekjhaaDoor
