/- The walk of BatchKnown: it answers true. -/
import Derived.Test.YtoaecmaphpnolaaLBatchPuts
import Derived.Test.YtoaecmaphpnolaaWInv
import Derived.Deep.OwnRows
import Derived.Deep.RegionHeld3
namespace Go.Proofs.Ytoaecmaphpnolaa
open Go.RowKit
set_option linter.unusedVariables false
set_option linter.unusedSimpArgs false

/-- Seventeen operations, the first k of which have their key. -/
def someKeys (k : Nat) : List P.Op := List.replicate k ⟨[107], [], false⟩ ++ List.replicate (17 - k) ⟨[], [], false⟩
def opCs (o : P.Op) : List Value := [S o.key, S o.val, .bool o.gone]
def keyCells (k : Nat) : Array Value := ((someKeys k).flatMap opCs).toArray
theorem run_make_R {P : Program} (t e : TypeId) (z : Value) (k bytes : Nat) (ht : P.underlying t = some (.slice e)) (hinfo : (P.info? e).map (fun i => (i.zero, i.size, i.bytes)) = some (some z, k, bytes)) (n : Nat) (hbytes : bytes * n ≤ 281474976710656) (h63 : n ≤ 9223372036854775807) (w : World) :
    (Instr.makeSlice t (.int .i64 (n : Int)) (.int .i64 (n : Int))).run P w = .ok (.slice (some ⟨w.heap.size, 0, none⟩) n n) (w.alloc (.cells (madeCells z.cells (n * k)) e)) := by
  obtain ⟨i, hi, hzz⟩ := Option.map_eq_some_iff.1 hinfo
  simp only [Prod.mk.injEq] at hzz
  obtain ⟨hz, hs, hb⟩ := hzz
  have hb' : (i.bytes : Int) * (n : Int) ≤ 281474976710656 := by
    rw [← hb] at hbytes
    have h : ((i.bytes * n : Nat) : Int) ≤ 281474976710656 := by omega
    rwa [Int.natCast_mul] at h
  have hr := run_make (P := P) w t e i z ht hi hz .i64 .i64 n n (by omega) (Int.le_refl _) hb' (by omega)
  simp only [Int.toNat_natCast, hs] at hr
  exact hr
theorem keys_made : madeCells (Value.agg #[.string ByteArray.empty, .string ByteArray.empty, .bool false]).cells (17 * 3) = keyCells 0 := by kernel_rfl
theorem keys_next : ∀ k, k < 17 → (keyCells k).setIfInBounds (k * 3) (S [107]) = keyCells (k + 1) := by
  intro k hk
  match k, hk with
  | 0, _ => rfl
  | 1, _ => rfl
  | 2, _ => rfl
  | 3, _ => rfl
  | 4, _ => rfl
  | 5, _ => rfl
  | 6, _ => rfl
  | 7, _ => rfl
  | 8, _ => rfl
  | 9, _ => rfl
  | 10, _ => rfl
  | 11, _ => rfl
  | 12, _ => rfl
  | 13, _ => rfl
  | 14, _ => rfl
  | 15, _ => rfl
  | 16, _ => rfl
  | k + 17, h => exact absurd h (by omega)
theorem keys_cells (k : Nat) (j : Nat) (hj : j < 17) (hk : k ≤ 17) : (keyCells k)[j * 3]?.isSome = true := by
  have : (keyCells k).size = 51 := by
    match k, hk with
    | 0, _ => rfl
    | 1, _ => rfl
    | 2, _ => rfl
    | 3, _ => rfl
    | 4, _ => rfl
    | 5, _ => rfl
    | 6, _ => rfl
    | 7, _ => rfl
    | 8, _ => rfl
    | 9, _ => rfl
    | 10, _ => rfl
    | 11, _ => rfl
    | 12, _ => rfl
    | 13, _ => rfl
    | 14, _ => rfl
    | 15, _ => rfl
    | 16, _ => rfl
    | 17, _ => rfl
    | k + 18, h => exact absurd h (by omega)
  rw [Array.getElem?_eq_getElem (by omega)]
  rfl

/-- A slice of one operation, made here. -/
theorem ops_one (w : World) (o : P.Op) (A : Array Value) (hA : A = #[S o.key, S o.val, .bool o.gone]) : OpsAt (w.alloc (.cells A 24)) (some ⟨w.heap.size, 0, none⟩) [o] := by
  subst hA
  intro i hi
  obtain rfl : i = 0 := by simp at hi; omega
  exact ⟨w.heap.size, 0, rfl, by simp, (Bx.fresh w _ _).cell 0, (Bx.fresh w _ _).cell 1, (Bx.fresh w _ _).cell 2⟩
/-- What a slot of the table's making holds. -/
inductive K6t where
  | ops (l : List P.Op)
  | bat (q : Nat) (l : List P.Op)
  | row (q : Nat) (l : List P.Op) (e : Int)
  | tab
  | any
def longK : List UInt8 := [48, 49, 50, 51, 52, 53, 54, 55, 56, 57, 48, 49, 50, 51, 52, 53, 54, 55, 56, 57, 48, 49, 50, 51, 52, 53, 54, 55, 56, 57, 48, 49, 50, 51, 52, 53, 54, 55, 56, 57, 48, 49, 50, 51, 52, 53, 54, 55, 56, 57, 48, 49, 50, 51, 52, 53, 54, 55, 56, 57, 48, 49, 50, 51]
def oneOps : Nat → List P.Op
  | 0 => [⟨[97], [120], false⟩]
  | 1 => [⟨[98], [120], true⟩]
  | 2 => [⟨[], [], false⟩]
  | 3 => [⟨longK ++ [52], [], false⟩]
  | _ => [⟨longK, [], false⟩]
def keysOf (n : Nat) : List P.Op := List.replicate n ⟨[107], [], false⟩
/-- The table's rows: the number, the operations, the error. -/
def rows6 : List (Nat × List P.Op × Int) := [(1, [], 1), (0, oneOps 0, 1), (1, oneOps 1, 1), (1, oneOps 2, 1), (1, oneOps 3, 3), (1, keysOf 17, 3), (1, keysOf 16, 0), (1, oneOps 4, 0), (9223372036854775808, keysOf 1, 0), (9223372036854775808, keysOf 2, 1), (18446744073709551615, keysOf 2, 1)]
/-- The table lies so in memory. -/
def Tab6 (w : World) (g : Nat) : Prop := ∀ (k : Nat) (h : k < rows6.length), ∃ a c, w.cell? ⟨g, k * 3, none⟩ = some (.int .u64 (rows6[k].1 : Int)) ∧ w.cell? ⟨g, k * 3 + 1, none⟩ = some (.slice a rows6[k].2.1.length c) ∧ w.cell? ⟨g, k * 3 + 2, none⟩ = some (.int .i64 rows6[k].2.2) ∧ OpsAt w a rows6[k].2.1
theorem Tab6.up {w w' : World} {g : Nat} (h : Tab6 w g) (hb : Below w.heap.size w w') : Tab6 w' g := by
  intro k hk
  obtain ⟨a, c, h0, h1, h2, h3⟩ := h k hk
  exact ⟨a, c, cell_up hb h0, cell_up hb h1, cell_up hb h2, h3.up hb⟩
theorem ops_keys {w : World} {g : Nat} {t : TypeId} (h : Bx w g t (((List.replicate 17 (⟨[107], [], false⟩ : P.Op)).flatMap opCs).toArray)) (n : Nat) (hn : n ≤ 17) : OpsAt w (some ⟨g, 0, none⟩) (keysOf n) := by
  intro i hi
  have hi' : i < n := by simpa [keysOf] using hi
  have e : (keysOf n)[i] = ⟨[107], [], false⟩ := by simp [keysOf]
  rw [e]
  refine ⟨g, 0, rfl, h.lt, ?_, ?_, ?_⟩
  all_goals rw [h.cell]
  all_goals
    have hi17 : i < 17 := by omega
    clear hi hi' e hn h
    match i, hi17 with
    | 0, _ => rfl
    | 1, _ => rfl
    | 2, _ => rfl
    | 3, _ => rfl
    | 4, _ => rfl
    | 5, _ => rfl
    | 6, _ => rfl
    | 7, _ => rfl
    | 8, _ => rfl
    | 9, _ => rfl
    | 10, _ => rfl
    | 11, _ => rfl
    | 12, _ => rfl
    | 13, _ => rfl
    | 14, _ => rfl
    | 15, _ => rfl
    | 16, _ => rfl
    | k + 17, h => exact absurd h (by omega)
theorem tab_new (w : World) (gk : Nat) (hk : ∀ n, n ≤ 17 → OpsAt w (some ⟨gk, 0, none⟩) (keysOf n)) (a0 a1 a2 a3 a4 : Option Addr) (c0 c1 c2 c3 c4 : Nat) (p0 : OpsAt w a0 (oneOps 0)) (p1 : OpsAt w a1 (oneOps 1)) (p2 : OpsAt w a2 (oneOps 2)) (p3 : OpsAt w a3 (oneOps 3)) (p4 : OpsAt w a4 (oneOps 4))
    (A : Array Value) (t : TypeId) (hA : A = #[.int .u64 1, .slice none 0 0, .int .i64 1, .int .u64 0, .slice a0 1 c0, .int .i64 1, .int .u64 1, .slice a1 1 c1, .int .i64 1, .int .u64 1, .slice a2 1 c2, .int .i64 1, .int .u64 1, .slice a3 1 c3, .int .i64 3,
      .int .u64 1, .slice (some ⟨gk, 0, none⟩) 17 17, .int .i64 3, .int .u64 1, .slice (some ⟨gk, 0, none⟩) 16 17, .int .i64 0, .int .u64 1, .slice a4 1 c4, .int .i64 0, .int .u64 9223372036854775808, .slice (some ⟨gk, 0, none⟩) 1 17, .int .i64 0, .int .u64 9223372036854775808, .slice (some ⟨gk, 0, none⟩) 2 17, .int .i64 1, .int .u64 18446744073709551615, .slice (some ⟨gk, 0, none⟩) 2 17, .int .i64 1]) : Tab6 (w.alloc (.cells A t)) w.heap.size := by
  subst hA
  have hb := (Below.refl w.heap.size w).alloc (Nat.le_refl _) (.cells #[.int .u64 1, .slice none 0 0, .int .i64 1, .int .u64 0, .slice a0 1 c0, .int .i64 1, .int .u64 1, .slice a1 1 c1, .int .i64 1, .int .u64 1, .slice a2 1 c2, .int .i64 1, .int .u64 1, .slice a3 1 c3, .int .i64 3,
      .int .u64 1, .slice (some ⟨gk, 0, none⟩) 17 17, .int .i64 3, .int .u64 1, .slice (some ⟨gk, 0, none⟩) 16 17, .int .i64 0, .int .u64 1, .slice a4 1 c4, .int .i64 0, .int .u64 9223372036854775808, .slice (some ⟨gk, 0, none⟩) 1 17, .int .i64 0, .int .u64 9223372036854775808, .slice (some ⟨gk, 0, none⟩) 2 17, .int .i64 1, .int .u64 18446744073709551615, .slice (some ⟨gk, 0, none⟩) 2 17, .int .i64 1] t)
  have hx := fun i => (Bx.fresh w t #[.int .u64 1, .slice none 0 0, .int .i64 1, .int .u64 0, .slice a0 1 c0, .int .i64 1, .int .u64 1, .slice a1 1 c1, .int .i64 1, .int .u64 1, .slice a2 1 c2, .int .i64 1, .int .u64 1, .slice a3 1 c3, .int .i64 3,
      .int .u64 1, .slice (some ⟨gk, 0, none⟩) 17 17, .int .i64 3, .int .u64 1, .slice (some ⟨gk, 0, none⟩) 16 17, .int .i64 0, .int .u64 1, .slice a4 1 c4, .int .i64 0, .int .u64 9223372036854775808, .slice (some ⟨gk, 0, none⟩) 1 17, .int .i64 0, .int .u64 9223372036854775808, .slice (some ⟨gk, 0, none⟩) 2 17, .int .i64 1, .int .u64 18446744073709551615, .slice (some ⟨gk, 0, none⟩) 2 17, .int .i64 1]).cell i
  intro k hlt
  match k, hlt with
  | 0, _ => exact ⟨_, _, hx 0, hx 1, hx 2, fun i hi => by simp [rows6] at hi⟩
  | 1, _ => exact ⟨_, _, hx 3, hx 4, hx 5, p0.up hb⟩
  | 2, _ => exact ⟨_, _, hx 6, hx 7, hx 8, p1.up hb⟩
  | 3, _ => exact ⟨_, _, hx 9, hx 10, hx 11, p2.up hb⟩
  | 4, _ => exact ⟨_, _, hx 12, hx 13, hx 14, p3.up hb⟩
  | 5, _ => exact ⟨_, _, hx 15, hx 16, hx 17, (hk 17 (by omega)).up hb⟩
  | 6, _ => exact ⟨_, _, hx 18, hx 19, hx 20, (hk 16 (by omega)).up hb⟩
  | 7, _ => exact ⟨_, _, hx 21, hx 22, hx 23, p4.up hb⟩
  | 8, _ => exact ⟨_, _, hx 24, hx 25, hx 26, (hk 1 (by omega)).up hb⟩
  | 9, _ => exact ⟨_, _, hx 27, hx 28, hx 29, (hk 2 (by omega)).up hb⟩
  | 10, _ => exact ⟨_, _, hx 30, hx 31, hx 32, (hk 2 (by omega)).up hb⟩
  | k + 11, h => exact absurd h (by simp [rows6])
def K6t.holds : K6t → Value → World → Prop
  | .ops l, v, w => ∃ a c, v = .slice a l.length c ∧ OpsAt w a l
  | .bat q l, v, w => ∃ a c, v = .agg #[.int .u64 (q : Int), .slice a l.length c] ∧ OpsAt w a l
  | .row q l e, v, w => ∃ a c, v = .agg #[.int .u64 (q : Int), .slice a l.length c, .int .i64 e] ∧ OpsAt w a l
  | .tab, v, w => ∃ g, v = .slice (some ⟨g, 0, none⟩) 11 11 ∧ Tab6 w g
  | .any, _, _ => True
def spec6 : Nat → K6t
  | 3 => .ops (oneOps 0)
  | 4 => .bat 0 (oneOps 0)
  | 5 => .row 0 (oneOps 0) 1
  | 7 => .ops (oneOps 1)
  | 8 => .bat 1 (oneOps 1)
  | 9 => .row 1 (oneOps 1) 1
  | 11 => .ops (oneOps 2)
  | 12 => .bat 1 (oneOps 2)
  | 13 => .row 1 (oneOps 2) 1
  | 17 => .ops (oneOps 3)
  | 18 => .bat 1 (oneOps 3)
  | 19 => .row 1 (oneOps 3) 3
  | 29 => .ops (oneOps 4)
  | 30 => .bat 1 (oneOps 4)
  | 31 => .row 1 (oneOps 4) 0
  | 44 => .tab
  | 45 => .tab
  | _ => .any
def K6 (i : Nat) (v : Value) (w : World) : Prop := (spec6 i).holds v w
theorem K6_up (i : Nat) (v : Value) (w w' : World) (h : K6 i v w) (hb : Below w.heap.size w w') : K6 i v w' := by
  unfold K6 at *
  generalize spec6 i = s at *
  cases s with
  | ops l => obtain ⟨a, c, h1, h2⟩ := h; exact ⟨a, c, h1, h2.up hb⟩
  | bat q l => obtain ⟨a, c, h1, h2⟩ := h; exact ⟨a, c, h1, h2.up hb⟩
  | row q l e => obtain ⟨a, c, h1, h2⟩ := h; exact ⟨a, c, h1, h2.up hb⟩
  | tab => obtain ⟨g, h1, h2⟩ := h; exact ⟨g, h1, h2.up hb⟩
  | any => trivial

theorem rows6_all : (rows6.all fun r => decide (r.1 < 18446744073709551616) && (decide (r.2.1.length ≤ 17) && decide ((P.chk r.1 r.2.1 : Int) = r.2.2))) = true := by kernel_rfl
theorem rows6_ok (k : Nat) (h : k < rows6.length) : rows6[k].1 < 18446744073709551616 ∧ rows6[k].2.1.length ≤ 17 ∧ (P.chk rows6[k].1 rows6[k].2.1 : Int) = rows6[k].2.2 := by
  have := (List.all_eq_true.1 rows6_all) _ (List.getElem_mem h)
  simpa only [Bool.and_eq_true, decide_eq_true_eq] using this
theorem smallB_cut : P.dec [7, 2, 0, 1, 97, 1, 120, 1, 1] = none := by
  have := P.dec_cut P.chk_small 9 (by rw [P.enc_small]; decide)
  rwa [P.enc_small] at this
theorem smallB_more : P.dec [7, 2, 0, 1, 97, 1, 120, 1, 1, 98, 0] = none := by
  have := P.dec_more P.chk_small [0] (by decide)
  rwa [P.enc_small] at this
theorem decode_no (s : List UInt8) (h : P.dec s = none) (hs : s.length ≤ 1000) (w : World) :
    Calls Try.prog 12 #[S s] w fun e w' => (∃ a c, e = .returned (.tuple #[.agg #[.int .u64 0, .slice a 0 c], .bool false])) ∧ Below w.heap.size w w' := by
  refine (decode_v s w (by omega)).mono ?_
  rintro e w' ⟨⟨a, c, h1, h2⟩, hb⟩
  obtain ⟨e1, e2, e3⟩ := P.dok_no h
  rw [e1, e2, e3] at h1
  exact ⟨⟨a, c, h1⟩, hb⟩
theorem entries_none (w : World) : Calls Try.prog 14 #[.agg #[.int .u64 5, .slice none 0 0]] w fun e w' => (∃ a c, e = .returned (.slice a 0 c)) ∧ Below w.heap.size w w' := by
  refine (entries_v 5 5 rfl none 0 0 [] rfl w (by decide) (by decide) (fun i hi => by simp at hi)).mono ?_
  rintro e w7 ⟨⟨a7, c7, rfl, hr7⟩, hb7⟩
  exact ⟨⟨a7, c7, rfl⟩, hb7⟩
attribute [local go_sem] str_take str_app
set_option maxRecDepth 100000 in
set_option maxHeartbeats 4000000 in
theorem law_known (w : World) :
    Calls Try.prog 3 #[] w fun e w' => e = .returned (.bool true) ∧ Below w.heap.size w w' := by
  have hmk : (Instr.makeSlice 22 (.int .i64 17) (.int .i64 17)).run Try.prog w = .ok (.slice (some ⟨w.heap.size, 0, none⟩) 17 17) (w.alloc (.cells (madeCells (Value.agg #[.string ByteArray.empty, .string ByteArray.empty, .bool false]).cells (17 * 3)) 24)) :=
    run_make_R 22 24 _ 3 40 Try.underlying22 infoOp 17 (by omega) (by omega) w
  rw [keys_made] at hmk
  have hbx := Bx.fresh w 24 (keyCells 0)
  have Hn := Lib.hid keys_next
  have Hc := Lib.hid keys_cells
  have Hd := Lib.hid (show keyCells 17 = ((List.replicate 17 (⟨[107], [], false⟩ : P.Op)).flatMap opCs).toArray from rfl)
  generalize keyCells = kc at *
  go_enter Try.func3, Try.ntmps3
  go_wp2_with fail
  clear hmk
  go_loopw [3] (fun i wr => ∃ k : Nat, k ≤ 17 ∧ i = .int .i64 k ∧ Bx wr w.heap.size 24 (kc k) ∧ Below w.heap.size w wr) (fun i _ => 17 - (intOf i).toNat)
  case atStart => exact ⟨0, by omega, rfl, hbx, (Below.refl _ _).alloc (Nat.le_refl _) _⟩
  case round =>
    clear hbx
    obtain ⟨k, hk, rfl, hbx, hb⟩ := hrel
    by_cases hlt : k < 17
    · have hs := Lib.hid (hbx.set (k * 3) (S [107]))
      rw [Hn.out k hlt] at hs
      have hf := hbx.frozen (k * 3)
      have hc := hbx.cell (k * 3)
      have hso := Hc.out k k hlt hk
      rw [← hc] at hso
      obtain ⟨u, hu⟩ := Option.isSome_iff_exists.1 hso
      clear hc hso hbx
      have hki : (k : Int) < 17 := by omega
      go_wp2_with fail
      go_roundw
      case rel => exact ⟨k + 1, by omega, by go_num, hs.out, hb.setCell (Nat.le_refl _) _⟩
      case measure => simp [intOf]; omega
    · obtain rfl : k = 17 := by omega
      clear hlt hk
      rw [show ((17 : Nat) : Int) = 17 from rfl]
      rw [Hd.out] at hbx
      go_wp2_with fail
      refine wp_region_any (by kernel_rfl) ?_
      -- REGION 7
      refine wpAny_take (i := 0) (v := ?_) rfl (by kernel_rfl) (by kernel_rfl) (by kernel_rfl) (fun _ _ _ h => h) (Or.inl ⟨by rfl, ?_⟩) ?_
      rotate_left
      · intro wq; go_simp; (try with_reducible rfl)
      simp only [Act.put, List.getElem_toArray, List.getElem_cons_succ, List.getElem_cons_zero, List.setIfInBounds_toArray, List.set_cons_zero, List.set_cons_succ]
      refine wpAny_take (i := 1) (v := ?_) rfl (by kernel_rfl) (by kernel_rfl) (by kernel_rfl) (fun _ _ _ h => h) (Or.inl ⟨by rfl, ?_⟩) ?_
      rotate_left
      · intro wq; go_simp; (try with_reducible rfl)
      simp only [Act.put, List.getElem_toArray, List.getElem_cons_succ, List.getElem_cons_zero, List.setIfInBounds_toArray, List.set_cons_zero, List.set_cons_succ]
      refine wpAny_take (i := 2) (v := ?_) rfl (by kernel_rfl) (by kernel_rfl) (by kernel_rfl) (fun _ _ _ h => h) (Or.inl ⟨by rfl, ?_⟩) ?_
      rotate_left
      · intro wq; go_simp; (try with_reducible rfl)
      simp only [Act.put, List.getElem_toArray, List.getElem_cons_succ, List.getElem_cons_zero, List.setIfInBounds_toArray, List.set_cons_zero, List.set_cons_succ]
      refine wpAny_take (i := 6) (v := ?_) rfl (by kernel_rfl) (by kernel_rfl) (by kernel_rfl) (fun _ _ _ h => h) (Or.inl ⟨by rfl, ?_⟩) ?_
      rotate_left
      · intro wq; go_simp; (try with_reducible rfl)
      simp only [Act.put, List.getElem_toArray, List.getElem_cons_succ, List.getElem_cons_zero, List.setIfInBounds_toArray, List.set_cons_zero, List.set_cons_succ]
      refine wpAny_take (i := 10) (v := ?_) rfl (by kernel_rfl) (by kernel_rfl) (by kernel_rfl) (fun _ _ _ h => h) (Or.inl ⟨by rfl, ?_⟩) ?_
      rotate_left
      · intro wq; go_simp; (try with_reducible rfl)
      simp only [Act.put, List.getElem_toArray, List.getElem_cons_succ, List.getElem_cons_zero, List.setIfInBounds_toArray, List.set_cons_zero, List.set_cons_succ]
      refine wpAny_take (i := 14) (v := ?_) rfl (by kernel_rfl) (by kernel_rfl) (by kernel_rfl) (fun _ _ _ h => h) (Or.inl ⟨by rfl, ?_⟩) ?_
      rotate_left
      · intro wq; go_simp; (try with_reducible rfl)
      simp only [Act.put, List.getElem_toArray, List.getElem_cons_succ, List.getElem_cons_zero, List.setIfInBounds_toArray, List.set_cons_zero, List.set_cons_succ]
      refine wpAny_take (i := 15) (v := ?_) rfl (by kernel_rfl) (by kernel_rfl) (by kernel_rfl) (fun _ _ _ h => h) (Or.inl ⟨by rfl, ?_⟩) ?_
      rotate_left
      · intro wq; go_simp; (try with_reducible rfl)
      simp only [Act.put, List.getElem_toArray, List.getElem_cons_succ, List.getElem_cons_zero, List.setIfInBounds_toArray, List.set_cons_zero, List.set_cons_succ]
      refine wpAny_take (i := 16) (v := ?_) rfl (by kernel_rfl) (by kernel_rfl) (by kernel_rfl) (fun _ _ _ h => h) (Or.inl ⟨by rfl, ?_⟩) ?_
      rotate_left
      · intro wq; go_simp; (try with_reducible rfl)
      simp only [Act.put, List.getElem_toArray, List.getElem_cons_succ, List.getElem_cons_zero, List.setIfInBounds_toArray, List.set_cons_zero, List.set_cons_succ]
      refine wpAny_take (i := 20) (v := ?_) rfl (by kernel_rfl) (by kernel_rfl) (by kernel_rfl) (fun _ _ _ h => h) (Or.inl ⟨by rfl, ?_⟩) ?_
      rotate_left
      · intro wq; go_simp; (try with_reducible rfl)
      simp only [Act.put, List.getElem_toArray, List.getElem_cons_succ, List.getElem_cons_zero, List.setIfInBounds_toArray, List.set_cons_zero, List.set_cons_succ]
      refine wpAny_take (i := 21) (v := ?_) rfl (by kernel_rfl) (by kernel_rfl) (by kernel_rfl) (fun _ _ _ h => h) (Or.inl ⟨by rfl, ?_⟩) ?_
      rotate_left
      · intro wq; go_simp; (try with_reducible rfl)
      simp only [Act.put, List.getElem_toArray, List.getElem_cons_succ, List.getElem_cons_zero, List.setIfInBounds_toArray, List.set_cons_zero, List.set_cons_succ]
      refine wpAny_take (i := 22) (v := ?_) rfl (by kernel_rfl) (by kernel_rfl) (by kernel_rfl) (fun _ _ _ h => h) (Or.inl ⟨by rfl, ?_⟩) ?_
      rotate_left
      · intro wq; go_simp; (try with_reducible rfl)
      simp only [Act.put, List.getElem_toArray, List.getElem_cons_succ, List.getElem_cons_zero, List.setIfInBounds_toArray, List.set_cons_zero, List.set_cons_succ]
      refine wpAny_take (i := 23) (v := ?_) rfl (by kernel_rfl) (by kernel_rfl) (by kernel_rfl) (fun _ _ _ h => h) (Or.inl ⟨by rfl, ?_⟩) ?_
      rotate_left
      · intro wq; go_simp; (try with_reducible rfl)
      simp only [Act.put, List.getElem_toArray, List.getElem_cons_succ, List.getElem_cons_zero, List.setIfInBounds_toArray, List.set_cons_zero, List.set_cons_succ]
      refine wpAny_take (i := 24) (v := ?_) rfl (by kernel_rfl) (by kernel_rfl) (by kernel_rfl) (fun _ _ _ h => h) (Or.inl ⟨by rfl, ?_⟩) ?_
      rotate_left
      · intro wq; go_simp; (try with_reducible rfl)
      simp only [Act.put, List.getElem_toArray, List.getElem_cons_succ, List.getElem_cons_zero, List.setIfInBounds_toArray, List.set_cons_zero, List.set_cons_succ]
      refine wpAny_take (i := 25) (v := ?_) rfl (by kernel_rfl) (by kernel_rfl) (by kernel_rfl) (fun _ _ _ h => h) (Or.inl ⟨by rfl, ?_⟩) ?_
      rotate_left
      · intro wq; go_simp; (try with_reducible rfl)
      simp only [Act.put, List.getElem_toArray, List.getElem_cons_succ, List.getElem_cons_zero, List.setIfInBounds_toArray, List.set_cons_zero, List.set_cons_succ]
      refine wpAny_take (i := 26) (v := ?_) rfl (by kernel_rfl) (by kernel_rfl) (by kernel_rfl) (fun _ _ _ h => h) (Or.inl ⟨by rfl, ?_⟩) ?_
      rotate_left
      · intro wq; go_simp; (try with_reducible rfl)
      simp only [Act.put, List.getElem_toArray, List.getElem_cons_succ, List.getElem_cons_zero, List.setIfInBounds_toArray, List.set_cons_zero, List.set_cons_succ]
      refine wpAny_take (i := 27) (v := ?_) rfl (by kernel_rfl) (by kernel_rfl) (by kernel_rfl) (fun _ _ _ h => h) (Or.inl ⟨by rfl, ?_⟩) ?_
      rotate_left
      · intro wq; go_simp; (try with_reducible rfl)
      simp only [Act.put, List.getElem_toArray, List.getElem_cons_succ, List.getElem_cons_zero, List.setIfInBounds_toArray, List.set_cons_zero, List.set_cons_succ]
      refine wpAny_take (i := 28) (v := ?_) rfl (by kernel_rfl) (by kernel_rfl) (by kernel_rfl) (fun _ _ _ h => h) (Or.inl ⟨by rfl, ?_⟩) ?_
      rotate_left
      · intro wq; go_simp; (try with_reducible rfl)
      simp only [Act.put, List.getElem_toArray, List.getElem_cons_succ, List.getElem_cons_zero, List.setIfInBounds_toArray, List.set_cons_zero, List.set_cons_succ]
      refine wpAny_take (i := 32) (v := ?_) rfl (by kernel_rfl) (by kernel_rfl) (by kernel_rfl) (fun _ _ _ h => h) (Or.inl ⟨by rfl, ?_⟩) ?_
      rotate_left
      · intro wq; go_simp; (try with_reducible rfl)
      simp only [Act.put, List.getElem_toArray, List.getElem_cons_succ, List.getElem_cons_zero, List.setIfInBounds_toArray, List.set_cons_zero, List.set_cons_succ]
      refine wpAny_take (i := 33) (v := ?_) rfl (by kernel_rfl) (by kernel_rfl) (by kernel_rfl) (fun _ _ _ h => h) (Or.inl ⟨by rfl, ?_⟩) ?_
      rotate_left
      · intro wq; go_simp; (try with_reducible rfl)
      simp only [Act.put, List.getElem_toArray, List.getElem_cons_succ, List.getElem_cons_zero, List.setIfInBounds_toArray, List.set_cons_zero, List.set_cons_succ]
      refine wpAny_take (i := 34) (v := ?_) rfl (by kernel_rfl) (by kernel_rfl) (by kernel_rfl) (fun _ _ _ h => h) (Or.inl ⟨by rfl, ?_⟩) ?_
      rotate_left
      · intro wq; go_simp; (try with_reducible rfl)
      simp only [Act.put, List.getElem_toArray, List.getElem_cons_succ, List.getElem_cons_zero, List.setIfInBounds_toArray, List.set_cons_zero, List.set_cons_succ]
      refine wpAny_take (i := 35) (v := ?_) rfl (by kernel_rfl) (by kernel_rfl) (by kernel_rfl) (fun _ _ _ h => h) (Or.inl ⟨by rfl, ?_⟩) ?_
      rotate_left
      · intro wq; go_simp; (try with_reducible rfl)
      simp only [Act.put, List.getElem_toArray, List.getElem_cons_succ, List.getElem_cons_zero, List.setIfInBounds_toArray, List.set_cons_zero, List.set_cons_succ]
      refine wpAny_take (i := 36) (v := ?_) rfl (by kernel_rfl) (by kernel_rfl) (by kernel_rfl) (fun _ _ _ h => h) (Or.inl ⟨by rfl, ?_⟩) ?_
      rotate_left
      · intro wq; go_simp; (try with_reducible rfl)
      simp only [Act.put, List.getElem_toArray, List.getElem_cons_succ, List.getElem_cons_zero, List.setIfInBounds_toArray, List.set_cons_zero, List.set_cons_succ]
      refine wpAny_take (i := 37) (v := ?_) rfl (by kernel_rfl) (by kernel_rfl) (by kernel_rfl) (fun _ _ _ h => h) (Or.inl ⟨by rfl, ?_⟩) ?_
      rotate_left
      · intro wq; go_simp; (try with_reducible rfl)
      simp only [Act.put, List.getElem_toArray, List.getElem_cons_succ, List.getElem_cons_zero, List.setIfInBounds_toArray, List.set_cons_zero, List.set_cons_succ]
      refine wpAny_take (i := 38) (v := ?_) rfl (by kernel_rfl) (by kernel_rfl) (by kernel_rfl) (fun _ _ _ h => h) (Or.inl ⟨by rfl, ?_⟩) ?_
      rotate_left
      · intro wq; go_simp; (try with_reducible rfl)
      simp only [Act.put, List.getElem_toArray, List.getElem_cons_succ, List.getElem_cons_zero, List.setIfInBounds_toArray, List.set_cons_zero, List.set_cons_succ]
      refine wpAny_take (i := 39) (v := ?_) rfl (by kernel_rfl) (by kernel_rfl) (by kernel_rfl) (fun _ _ _ h => h) (Or.inl ⟨by rfl, ?_⟩) ?_
      rotate_left
      · intro wq; go_simp; (try with_reducible rfl)
      simp only [Act.put, List.getElem_toArray, List.getElem_cons_succ, List.getElem_cons_zero, List.setIfInBounds_toArray, List.set_cons_zero, List.set_cons_succ]
      refine wpAny_take (i := 40) (v := ?_) rfl (by kernel_rfl) (by kernel_rfl) (by kernel_rfl) (fun _ _ _ h => h) (Or.inl ⟨by rfl, ?_⟩) ?_
      rotate_left
      · intro wq; go_simp; (try with_reducible rfl)
      simp only [Act.put, List.getElem_toArray, List.getElem_cons_succ, List.getElem_cons_zero, List.setIfInBounds_toArray, List.set_cons_zero, List.set_cons_succ]
      refine wpAny_take (i := 41) (v := ?_) rfl (by kernel_rfl) (by kernel_rfl) (by kernel_rfl) (fun _ _ _ h => h) (Or.inl ⟨by rfl, ?_⟩) ?_
      rotate_left
      · intro wq; go_simp; (try with_reducible rfl)
      simp only [Act.put, List.getElem_toArray, List.getElem_cons_succ, List.getElem_cons_zero, List.setIfInBounds_toArray, List.set_cons_zero, List.set_cons_succ]
      refine wpAny_take (i := 42) (v := ?_) rfl (by kernel_rfl) (by kernel_rfl) (by kernel_rfl) (fun _ _ _ h => h) (Or.inl ⟨by rfl, ?_⟩) ?_
      rotate_left
      · intro wq; go_simp; (try with_reducible rfl)
      simp only [Act.put, List.getElem_toArray, List.getElem_cons_succ, List.getElem_cons_zero, List.setIfInBounds_toArray, List.set_cons_zero, List.set_cons_succ]
      refine wpAny_take (i := 43) (v := ?_) rfl (by kernel_rfl) (by kernel_rfl) (by kernel_rfl) (fun _ _ _ h => h) (Or.inl ⟨by rfl, ?_⟩) ?_
      rotate_left
      · intro wq; go_simp; (try with_reducible rfl)
      simp only [Act.put, List.getElem_toArray, List.getElem_cons_succ, List.getElem_cons_zero, List.setIfInBounds_toArray, List.set_cons_zero, List.set_cons_succ]
      refine wpAny_by K6 (fun wx => Below wr.heap.size wr wx) (fun wx wy => Below wx.heap.size wx wy) [(3, some 28), (4, some 29), (5, some 30), (7, some 32), (8, some 33), (9, some 34), (11, some 36), (12, some 37), (13, some 38), (17, some 42), (18, some 43), (19, some 44), (29, some 54), (30, some 55), (31, some 56), (44, some 69), (45, some 4)] rfl (by kernel_rfl) (by kernel_rfl) (by kernel_rfl) (by kernel_rfl) (by kernel_rfl) (by kernel_rfl) (by kernel_rfl) K6_up (Below.refl _ _).drew ?_ ?_
      · skip
        refine StepsI.skip (by kernel_rfl) ?_
        refine StepsI.skip (by kernel_rfl) ?_
        refine StepsI.skip (by kernel_rfl) ?_
        refine StepsI.cons (fun vals wx hS hd K hK => ?_) ?_
        · simp only [fillA, Act.put, List.setIfInBounds_toArray, List.set_cons_zero, List.set_cons_succ] at hK ⊢
          go_simp
          exact hK.out _ _ ⟨_, _, rfl, ops_one wx _ _ rfl⟩ (hS.alloc hS.size _) ((Below.refl _ _).alloc (Nat.le_refl _) _)
        refine StepsI.cons (fun vals wx hS hd K hK => ?_) ?_
        · simp only [fillA, Act.put, List.setIfInBounds_toArray, List.set_cons_zero, List.set_cons_succ] at hK ⊢
          obtain ⟨a1, c1, h1, p1⟩ := hd 3 (some 28) (by decide) (by kernel_rfl)
          simp only [h1] at hK ⊢
          go_simp
          exact hK.out _ _ ⟨_, _, rfl, p1⟩ hS (Below.refl _ _)
        refine StepsI.cons (fun vals wx hS hd K hK => ?_) ?_
        · simp only [fillA, Act.put, List.setIfInBounds_toArray, List.set_cons_zero, List.set_cons_succ] at hK ⊢
          obtain ⟨a1, c1, h1, p1⟩ := hd 4 (some 29) (by decide) (by kernel_rfl)
          simp only [h1] at hK ⊢
          go_simp
          exact hK.out _ _ ⟨_, _, rfl, p1⟩ hS (Below.refl _ _)
        refine StepsI.skip (by kernel_rfl) ?_
        refine StepsI.cons (fun vals wx hS hd K hK => ?_) ?_
        · simp only [fillA, Act.put, List.setIfInBounds_toArray, List.set_cons_zero, List.set_cons_succ] at hK ⊢
          go_simp
          exact hK.out _ _ ⟨_, _, rfl, ops_one wx _ _ rfl⟩ (hS.alloc hS.size _) ((Below.refl _ _).alloc (Nat.le_refl _) _)
        refine StepsI.cons (fun vals wx hS hd K hK => ?_) ?_
        · simp only [fillA, Act.put, List.setIfInBounds_toArray, List.set_cons_zero, List.set_cons_succ] at hK ⊢
          obtain ⟨a1, c1, h1, p1⟩ := hd 7 (some 32) (by decide) (by kernel_rfl)
          simp only [h1] at hK ⊢
          go_simp
          exact hK.out _ _ ⟨_, _, rfl, p1⟩ hS (Below.refl _ _)
        refine StepsI.cons (fun vals wx hS hd K hK => ?_) ?_
        · simp only [fillA, Act.put, List.setIfInBounds_toArray, List.set_cons_zero, List.set_cons_succ] at hK ⊢
          obtain ⟨a1, c1, h1, p1⟩ := hd 8 (some 33) (by decide) (by kernel_rfl)
          simp only [h1] at hK ⊢
          go_simp
          exact hK.out _ _ ⟨_, _, rfl, p1⟩ hS (Below.refl _ _)
        refine StepsI.skip (by kernel_rfl) ?_
        refine StepsI.cons (fun vals wx hS hd K hK => ?_) ?_
        · simp only [fillA, Act.put, List.setIfInBounds_toArray, List.set_cons_zero, List.set_cons_succ] at hK ⊢
          go_simp
          exact hK.out _ _ ⟨_, _, rfl, ops_one wx _ _ rfl⟩ (hS.alloc hS.size _) ((Below.refl _ _).alloc (Nat.le_refl _) _)
        refine StepsI.cons (fun vals wx hS hd K hK => ?_) ?_
        · simp only [fillA, Act.put, List.setIfInBounds_toArray, List.set_cons_zero, List.set_cons_succ] at hK ⊢
          obtain ⟨a1, c1, h1, p1⟩ := hd 11 (some 36) (by decide) (by kernel_rfl)
          simp only [h1] at hK ⊢
          go_simp
          exact hK.out _ _ ⟨_, _, rfl, p1⟩ hS (Below.refl _ _)
        refine StepsI.cons (fun vals wx hS hd K hK => ?_) ?_
        · simp only [fillA, Act.put, List.setIfInBounds_toArray, List.set_cons_zero, List.set_cons_succ] at hK ⊢
          obtain ⟨a1, c1, h1, p1⟩ := hd 12 (some 37) (by decide) (by kernel_rfl)
          simp only [h1] at hK ⊢
          go_simp
          exact hK.out _ _ ⟨_, _, rfl, p1⟩ hS (Below.refl _ _)
        refine StepsI.skip (by kernel_rfl) ?_
        refine StepsI.skip (by kernel_rfl) ?_
        refine StepsI.skip (by kernel_rfl) ?_
        refine StepsI.cons (fun vals wx hS hd K hK => ?_) ?_
        · simp only [fillA, Act.put, List.setIfInBounds_toArray, List.set_cons_zero, List.set_cons_succ] at hK ⊢
          go_simp
          exact hK.out _ _ ⟨_, _, rfl, ops_one wx _ _ rfl⟩ (hS.alloc hS.size _) ((Below.refl _ _).alloc (Nat.le_refl _) _)
        refine StepsI.cons (fun vals wx hS hd K hK => ?_) ?_
        · simp only [fillA, Act.put, List.setIfInBounds_toArray, List.set_cons_zero, List.set_cons_succ] at hK ⊢
          obtain ⟨a1, c1, h1, p1⟩ := hd 17 (some 42) (by decide) (by kernel_rfl)
          simp only [h1] at hK ⊢
          go_simp
          exact hK.out _ _ ⟨_, _, rfl, p1⟩ hS (Below.refl _ _)
        refine StepsI.cons (fun vals wx hS hd K hK => ?_) ?_
        · simp only [fillA, Act.put, List.setIfInBounds_toArray, List.set_cons_zero, List.set_cons_succ] at hK ⊢
          obtain ⟨a1, c1, h1, p1⟩ := hd 18 (some 43) (by decide) (by kernel_rfl)
          simp only [h1] at hK ⊢
          go_simp
          exact hK.out _ _ ⟨_, _, rfl, p1⟩ hS (Below.refl _ _)
        refine StepsI.skip (by kernel_rfl) ?_
        refine StepsI.skip (by kernel_rfl) ?_
        refine StepsI.skip (by kernel_rfl) ?_
        refine StepsI.skip (by kernel_rfl) ?_
        refine StepsI.skip (by kernel_rfl) ?_
        refine StepsI.skip (by kernel_rfl) ?_
        refine StepsI.skip (by kernel_rfl) ?_
        refine StepsI.skip (by kernel_rfl) ?_
        refine StepsI.skip (by kernel_rfl) ?_
        refine StepsI.cons (fun vals wx hS hd K hK => ?_) ?_
        · simp only [fillA, Act.put, List.setIfInBounds_toArray, List.set_cons_zero, List.set_cons_succ] at hK ⊢
          go_simp
          exact hK.out _ _ ⟨_, _, rfl, ops_one wx _ _ rfl⟩ (hS.alloc hS.size _) ((Below.refl _ _).alloc (Nat.le_refl _) _)
        refine StepsI.cons (fun vals wx hS hd K hK => ?_) ?_
        · simp only [fillA, Act.put, List.setIfInBounds_toArray, List.set_cons_zero, List.set_cons_succ] at hK ⊢
          obtain ⟨a1, c1, h1, p1⟩ := hd 29 (some 54) (by decide) (by kernel_rfl)
          simp only [h1] at hK ⊢
          go_simp
          exact hK.out _ _ ⟨_, _, rfl, p1⟩ hS (Below.refl _ _)
        refine StepsI.cons (fun vals wx hS hd K hK => ?_) ?_
        · simp only [fillA, Act.put, List.setIfInBounds_toArray, List.set_cons_zero, List.set_cons_succ] at hK ⊢
          obtain ⟨a1, c1, h1, p1⟩ := hd 30 (some 55) (by decide) (by kernel_rfl)
          simp only [h1] at hK ⊢
          go_simp
          exact hK.out _ _ ⟨_, _, rfl, p1⟩ hS (Below.refl _ _)
        refine StepsI.skip (by kernel_rfl) ?_
        refine StepsI.skip (by kernel_rfl) ?_
        refine StepsI.skip (by kernel_rfl) ?_
        refine StepsI.skip (by kernel_rfl) ?_
        refine StepsI.skip (by kernel_rfl) ?_
        refine StepsI.skip (by kernel_rfl) ?_
        refine StepsI.skip (by kernel_rfl) ?_
        refine StepsI.skip (by kernel_rfl) ?_
        refine StepsI.skip (by kernel_rfl) ?_
        refine StepsI.skip (by kernel_rfl) ?_
        refine StepsI.skip (by kernel_rfl) ?_
        refine StepsI.skip (by kernel_rfl) ?_
        refine StepsI.cons (fun vals wx hS hd K hK => ?_) ?_
        · simp only [fillA, Act.put, List.setIfInBounds_toArray, List.set_cons_zero, List.set_cons_succ] at hK ⊢
          obtain ⟨a0, c0, h0, p0⟩ := hd 5 (some 30) (by decide) (by kernel_rfl)
          obtain ⟨a1, c1, h1, p1⟩ := hd 9 (some 34) (by decide) (by kernel_rfl)
          obtain ⟨a2, c2, h2, p2⟩ := hd 13 (some 38) (by decide) (by kernel_rfl)
          obtain ⟨a3, c3, h3, p3⟩ := hd 19 (some 44) (by decide) (by kernel_rfl)
          obtain ⟨a4, c4, h4, p4⟩ := hd 31 (some 56) (by decide) (by kernel_rfl)
          simp only [h0, h1, h2, h3, h4] at hK ⊢
          go_simp
          exact hK.out _ _ ⟨_, rfl, tab_new wx _ (fun n hn => (ops_keys hbx n hn).up hS) a0 a1 a2 a3 a4 c0 c1 c2 c3 c4 p0 p1 p2 p3 p4 _ _ rfl⟩ (hS.alloc hS.size _) ((Below.refl _ _).alloc (Nat.le_refl _) _)
        refine StepsI.cons (fun vals wx hS hd K hK => ?_) ?_
        · simp only [fillA, Act.put, List.setIfInBounds_toArray, List.set_cons_zero, List.set_cons_succ] at hK ⊢
          obtain ⟨g, h1, p1⟩ := hd 44 (some 69) (by decide) (by kernel_rfl)
          simp only [h1] at hK ⊢
          go_simp
          exact hK.out _ _ ⟨g, rfl, p1⟩ hS (Below.refl _ _)
        exact StepsI.nil
      · intro vals wx hS hd
        obtain ⟨g, hg, hT⟩ : ∃ g, vals 45 = .slice (some ⟨g, 0, none⟩) 11 11 ∧ Tab6 wx g := hd (45, some 4) (by decide)
        simp only [fillA, Act.put, List.setIfInBounds_toArray, List.set_cons_zero, List.set_cons_succ, hg]
        clear hd hg
        have hc0 := Chain.up hb hS
        clear hS hb hbx Hn Hc Hd
        generalize vals 3 = x3
        generalize vals 4 = x4
        generalize vals 5 = x5
        generalize vals 7 = x7
        generalize vals 8 = x8
        generalize vals 9 = x9
        generalize vals 11 = x11
        generalize vals 12 = x12
        generalize vals 13 = x13
        generalize vals 17 = x17
        generalize vals 18 = x18
        generalize vals 19 = x19
        generalize vals 29 = x29
        generalize vals 30 = x30
        generalize vals 31 = x31
        generalize vals 44 = x44
        clear vals
      -- END 7
        go_wp2_with fail
        go_loopw [5] (fun i wr => ∃ k : Nat, k ≤ 11 ∧ i = .int .i64 k ∧ Below wx.heap.size wx wr) (fun i _ => 11 - (intOf i).toNat)
        case atStart => exact ⟨0, by omega, rfl, Below.refl _ _⟩
        case round =>
          obtain ⟨k, hk, rfl, hb⟩ := hrel
          by_cases hlt : k < 11
          · obtain ⟨a, c, h0, h1, h2, hops⟩ := (hT.up hb) k hlt
            obtain ⟨hq, hl, hck⟩ := rows6_ok k hlt
            have HE := Lib.hid (fun wz (hz : Below wr.heap.size wr wz) => encode_v rows6[k].1 _ rfl a _ c rows6[k].2.1 rfl wz hq (by omega) (hops.up hz) rows6[k].2.2 hck _ rfl)
            have HC := Lib.hid (fun wz (hz : Below wr.heap.size wr wz) => check_v rows6[k].1 _ rfl a _ c rows6[k].2.1 rfl wz hq (by omega) (hops.up hz) rows6[k].2.2 hck)
            have hki : (k : Int) < 11 := by omega
            clear hck hq hl hops hT
            generalize P.encS rows6[k].1 rows6[k].2.1 = en at *
            generalize rows6[k].2.1.length = n at *
            generalize rows6[k].2.2 = ee at *
            generalize rows6[k].1 = q at *
            go_wp2_with (first
              | (go_at_call 9; (with_reducible refine (HE.out _ (Below.refl _ _)).mono ?_); rintro e w2 ⟨rfl, hb2⟩; have y0 := cell_up hb2 h0; have y1 := cell_up hb2 h1; have y2 := cell_up hb2 h2; have hw2 := Chain.up hb hb2))
            have hb0 := (Below.refl w2.heap.size w2).drew
            have hki0 : (0 : Int) ≤ (k : Int) := by omega
            go_region_held3 (fun wx => Below w2.heap.size w2 wx ∧ wx.cell? ⟨g, k * 3, none⟩ = some (.int .u64 (q : Int)) ∧ wx.cell? ⟨g, k * 3 + 1, none⟩ = some (.slice a n c) ∧ wx.cell? ⟨g, k * 3 + 2, none⟩ = some (.int .i64 ee))
              (first | exact ⟨hb0, y0, y1, y2⟩ | (go_split_ands; have hK := Chain.up (show Below w2.heap.size w2 _ by assumption) hbL; exact ⟨hK, cell_up hK y0, cell_up hK y1, cell_up hK y2⟩))
              (first
                | (go_at_call 10; go_split_ands; (with_reducible refine (HC.out _ (Chain.up hb2 ?hk1)).mono ?_); (case hk1 => assumption); rintro e w3 ⟨rfl, hbL⟩))
            go_split_ands
            have hb23 : Below w2.heap.size w2 w3 := by assumption
            go_wp2_with fail
            go_roundw
            case rel => exact ⟨k + 1, by omega, by go_num, Chain.up hw2 hb23⟩
            case measure => simp [intOf]; omega
          · obtain rfl : k = 11 := by omega
            clear hlt hk hT
            have hc1 := Chain.up hc0 hb
            go_wp2_with (first
              | (go_at_call 11; (with_reducible refine (small_any _).mono ?_); rintro e w1 ⟨⟨a1, c1, rfl, hops1⟩, hb1⟩; have hc2 := Chain.up hc1 hb1)
              | (go_at_call 9; (with_reducible refine (encode_small _ _ _ hops1).mono ?_); rintro e w2 ⟨rfl, hb2⟩; have hc3 := Chain.up hc2 hb2)
              | (go_at_call 12; (with_reducible refine (decode_no [7, 2, 0, 1, 97, 1, 120, 1, 1] smallB_cut (by decide) _).mono ?_); rintro e w4 ⟨⟨a4, c4, rfl⟩, hb4⟩; have hc4 := (Chain.up hc3 hb4).alloc (Chain.up hc3 hb4).size (.cells #[.int .u64 0, .slice a4 0 c4] 27))
              | (go_at_call 12; (with_reducible refine (decode_no [7, 2, 0, 1, 97, 1, 120, 1, 1, 98, 0] smallB_more (by decide) _).mono ?_); rintro e w5 ⟨⟨a5, c5, rfl⟩, hb5⟩; have hc5 := (Chain.up hc4 hb5).alloc (Chain.up hc4 hb5).size (.cells #[.int .u64 0, .slice a5 0 c5] 27))
              | (go_at_call 13; (with_reducible refine (last_v 5 5 rfl none 0 0 _ (by decide) (by decide) 5 (by decide)).mono ?_); rintro e w6 ⟨rfl, hb6⟩; have hc6 := Chain.up hc5 hb6)
              | (go_at_call 14; (with_reducible refine (entries_none _).mono ?_); rintro e w7 ⟨⟨a7, c7, rfl⟩, hb7⟩; have hc7 := Chain.up hc6 hb7)
              | (go_at_call 15; (with_reducible refine (awake_any _).mono ?_); rintro e w8 ⟨rfl, hb8⟩))
            go_ret
            exact ⟨rfl, Chain.up hc7 hb8⟩
end Go.Proofs.Ytoaecmaphpnolaa
