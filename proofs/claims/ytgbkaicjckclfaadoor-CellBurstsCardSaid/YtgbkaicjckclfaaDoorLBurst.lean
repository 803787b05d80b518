/- CellBurst: a cell's bytes of which four side by side are turned are no cell's. The walk of the law. -/
import Derived.Test.YtgbkaicjckclfaaDoorWAwake
import Derived.Test.YtgbkaicjckclfaaDoorWTurned
import Derived.Test.YtgbkaicjckclfaaDoorPBurst
import Derived.Test.YtgbkaicjckclfaaDoorLMakes
namespace Go.Proofs.YtgbkaicjckclfaaDoor
open Go.RowKit

theorem mask_of {x : Int} (h : (Lit.int .u32 x).wf = true) : ∃ m : BitVec 32, x = n32 m := by
  have hb : 0 ≤ x ∧ x ≤ 4294967295 := by
    simp [Lit.wf, IntKind.min, IntKind.max, IntKind.signed, IntKind.bits] at h
    omega
  refine ⟨BitVec.ofNat 32 x.toNat, ?_⟩
  unfold n32
  rw [BitVec.toNat_ofNat]
  omega
theorem u8_of {x : Int} (h : (Lit.int .u8 x).wf = true) : ∃ k : Nat, x = k ∧ k < 256 := by
  simp [Lit.wf, IntKind.min, IntKind.max, IntKind.signed, IntKind.bits] at h
  exact ⟨x.toNat, by omega, by omega⟩
theorem u16_of {x : Int} (h : (Lit.int .u16 x).wf = true) : ∃ k : Nat, x = k ∧ k < 65536 := by
  simp [Lit.wf, IntKind.min, IntKind.max, IntKind.signed, IntKind.bits] at h
  exact ⟨x.toNat, by omega, by omega⟩

attribute [local go_sem] cell_set_same

set_option maxHeartbeats 1000000 in
theorem burst_long (f l : Bool) (n : Int) (d : List UInt8) (p : Nat) (m : BitVec 32) (w : World) (hlen : (3000 : Int) < (d.length : Int)) (_hd : d.length ≤ 9223372036854775807) (ht : TabOk w) :
    Calls Tryd.prog 7 #[.agg #[.bool f, .bool l, .int .i64 n, S d], .int .u8 p, W32 m] w fun e w' => e = .returned (.bool true) ∧ Below w.heap.size w w' := by
  go_enter Tryd.func7, Tryd.ntmps7
  go_wp2_with (go_at_call 12; refine (awake_any _ (ht.alloc _)).mono ?_; rintro e w1 ⟨rfl, hb1⟩)
  go_ret
  exact ⟨rfl, below_step ((Below.refl _ _).alloc (Nat.le_refl _) _) hb1⟩

set_option maxHeartbeats 1000000 in
theorem burst_no (f l : Bool) (n : Int) (d : List UInt8) (p : Nat) (m : BitVec 32) (w : World) (hlen : ¬ (3000 : Int) < (d.length : Int)) (hm : P.may ⟨f, l, n, d⟩ = false) (ht : TabOk w) :
    Calls Tryd.prog 7 #[.agg #[.bool f, .bool l, .int .i64 n, S d], .int .u8 p, W32 m] w fun e w' => e = .returned (.bool true) ∧ Below w.heap.size w w' := by
  have hd : d.length ≤ 9223372036854775807 := by omega
  go_enter Tryd.func7, Tryd.ntmps7
  go_wp2_with (first
    | (go_at_call 10; refine (make_no f l n d _ hd hm).mono ?_; rintro e w1 ⟨rfl, hb1⟩; obtain ⟨k0, k1, k2, k3, hs1, hbw⟩ := box4 hb1; clear hb1; have ht1 := ht.up hbw)
    | (go_at_call 12; refine (awake_any _ ht1).mono ?_; rintro e w2 ⟨rfl, hb2⟩))
  go_ret
  exact ⟨rfl, below_step hbw hb2⟩

set_option maxHeartbeats 1000000 in
theorem burst_yes (f l : Bool) (n : Int) (d : List UInt8) (p : Nat) (m : BitVec 32) (w : World) (hlen : ¬ (3000 : Int) < (d.length : Int)) (hp : p < 256) (hm : P.may ⟨f, l, n, d⟩ = true) (ht : TabOk w) :
    Calls Tryd.prog 7 #[.agg #[.bool f, .bool l, .int .i64 n, S d], .int .u8 p, W32 m] w fun e w' => e = .returned (.bool true) ∧ Below w.heap.size w w' := by
  have hbl : (P.bytesOf ⟨f, l, n, d⟩).length = 32 := P.bytesOf_length _ (P.may_len hm)
  have htl := P.turned_length (P.bytesOf ⟨f, l, n, d⟩) (p % 32) m
  have hT := Lib.hid (fun W => turned_any (P.bytesOf ⟨f, l, n, d⟩) (p % 32) m W (by omega) (by omega))
  have hr := P.turned_reads (P.bytesOf ⟨f, l, n, d⟩) (p % 32) m (P.reads_bytes _ hm)
  have hM := Lib.hid (fun W hW => make_yes f l n d W hm hW)
  have hR := Lib.hid (fun W hW => read_any (P.turned (P.bytesOf ⟨f, l, n, d⟩) (p % 32) m) W (by omega) hW)
  clear htl hbl
  by_cases he : P.bytesOf ⟨f, l, n, d⟩ = P.turned (P.bytesOf ⟨f, l, n, d⟩) (p % 32) m
  · have heq : (P.bytesOf ⟨f, l, n, d⟩ == P.turned (P.bytesOf ⟨f, l, n, d⟩) (p % 32) m) = true := beq_iff_eq.2 he
    rw [heq] at hr
    rw [hr] at hR
    clear hr he
    generalize P.turned (P.bytesOf ⟨f, l, n, d⟩) (p % 32) m = t at *
    generalize P.bytesOf ⟨f, l, n, d⟩ = s at *
    generalize P.read t = c at *
    go_enter Tryd.func7, Tryd.ntmps7
    go_wp2_with (first
      | (go_at_call 10; refine (hM.out _ (ht.alloc _)).mono ?_; rintro e w1 ⟨rfl, hb1⟩; obtain ⟨k0, k1, k2, k3, hs1, hbw⟩ := box4 hb1; clear hb1; have ht1 := ht.up hbw)
      | (go_at_call 18; refine (hT.out _).mono ?_; rintro e w2 ⟨rfl, hb2⟩; have ht2 := ht1.up hb2)
      | (go_at_call 16; refine (hR.out _ ht2).mono ?_; rintro e w3 ⟨rfl, hb3⟩; have ht3 := ht2.up hb3)
      | (go_at_call 12; refine (awake_any _ (ht3.alloc _)).mono ?_; rintro e w4 ⟨rfl, hb4⟩))
    go_ret
    exact ⟨rfl, below_step ((below_step (below_step hbw hb2) hb3).alloc (Nat.le_trans (Nat.le_of_lt hs1) (Nat.le_trans hb2.size hb3.size)) _) hb4⟩
  · have heq : (P.bytesOf ⟨f, l, n, d⟩ == P.turned (P.bytesOf ⟨f, l, n, d⟩) (p % 32) m) = false := beq_eq_false_iff_ne.2 he
    rw [heq] at hr
    have hz := read_ne _ hr
    rw [hr, hz] at hR
    clear hr he hz
    have hR' : Hid (∀ W, TabOk W → Calls Tryd.prog 16 #[S (P.turned (P.bytesOf ⟨f, l, n, d⟩) (p % 32) m)] W fun e w' => e = .returned (.tuple #[.agg #[.bool false, .bool false, .int .i64 0, S []], .bool false]) ∧ Below W.heap.size W w') := hR
    clear hR
    generalize P.turned (P.bytesOf ⟨f, l, n, d⟩) (p % 32) m = t at *
    generalize P.bytesOf ⟨f, l, n, d⟩ = s at *
    go_enter Tryd.func7, Tryd.ntmps7
    go_wp2_with (first
      | (go_at_call 10; refine (hM.out _ (ht.alloc _)).mono ?_; rintro e w1 ⟨rfl, hb1⟩; obtain ⟨k0, k1, k2, k3, hs1, hbw⟩ := box4 hb1; clear hb1; have ht1 := ht.up hbw)
      | (go_at_call 18; refine (hT.out _).mono ?_; rintro e w2 ⟨rfl, hb2⟩; have ht2 := ht1.up hb2)
      | (go_at_call 16; refine (Hid.out hR' _ ht2).mono ?_; rintro e w3 ⟨rfl, hb3⟩; have ht3 := ht2.up hb3)
      | (go_at_call 12; refine (awake_any _ (ht3.alloc _)).mono ?_; rintro e w4 ⟨rfl, hb4⟩))
    go_ret
    exact ⟨rfl, below_step ((below_step (below_step hbw hb2) hb3).alloc (Nat.le_trans (Nat.le_of_lt hs1) (Nat.le_trans hb2.size hb3.size)) _) hb4⟩

/-- The law, as the row asks it. -/
theorem law_burst (f l : Bool) (n : Int) (d : List UInt8) (x y : Int) (w : World) (hd : d.length ≤ 9223372036854775807) (hx : (Lit.int .u8 x).wf = true) (hy : (Lit.int .u32 y).wf = true) (ht : TabOk w) :
    Calls Tryd.prog 7 #[.agg #[.bool f, .bool l, .int .i64 n, S d], .int .u8 x, .int .u32 y] w fun e w' => e = .returned (.bool true) ∧ Below w.heap.size w w' := by
  obtain ⟨p, rfl, hp⟩ := u8_of hx
  obtain ⟨m, rfl⟩ := mask_of hy
  by_cases hlen : (3000 : Int) < (d.length : Int)
  · exact burst_long f l n d p m w hlen hd ht
  · by_cases hm : P.may ⟨f, l, n, d⟩ = true
    · exact burst_yes f l n d p m w hlen hp hm ht
    · exact burst_no f l n d p m w hlen (by simpa using hm) ht
end Go.Proofs.YtgbkaicjckclfaaDoor
