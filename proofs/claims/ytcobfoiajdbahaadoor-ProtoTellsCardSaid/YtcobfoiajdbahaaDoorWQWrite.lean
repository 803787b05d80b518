/- The walk of proto.Write: a request's bytes. -/
import Derived.Test.YtcobfoiajdbahaaDoorWQWr
import Derived.Test.YtcobfoiajdbahaaDoorWQRight
namespace Go.Proofs.YtcobfoiajdbahaaDoor
open Go.RowKit
set_option linter.unusedVariables false
set_option linter.unusedSimpArgs false
/-- The table of what an Op uses lies in the first block. -/
def UsesOk (w : World) : Prop := 0 < w.heap.size ∧ ∀ i, i < 16 → w.cell? ⟨0, i, none⟩ = some (.int .i64 ((P.uses i : Nat) : Int))
theorem UsesOk.up {w w' : World} (h : UsesOk w) (hb : Below w.heap.size w w') : UsesOk w' :=
  ⟨Nat.lt_of_lt_of_le h.1 hb.size, fun i hi => (hb.cell (p := ⟨0, i, none⟩) h.1).trans (h.2 i hi)⟩
theorem and_use : ∀ (i : Fin 16) (j : Fin 7), bits .and .i64 ((P.uses i.val : Nat) : Int) ((2 ^ j.val : Nat) : Int) = if P.use i.val j.val then ((2 ^ j.val : Nat) : Int) else 0 := by decide
theorem P.fB_len (c : P.Ca) (i : Nat) (hi : i < 7) (h : P.fOk c i = true) : (P.fB c i).length ≤ 60 := by
  have ha : ∀ a : P.Ad, (P.adX a).length ≤ 17 := fun a => by unfold P.adX P.adB; split <;> (try split) <;> simp [P.be_length]
  have hr : ∀ n : Nat, (P.row n).length ≤ 9 := fun n => P.row_len9 n
  have ht : ∀ s : List UInt8, P.nameOk s = true → (P.txB s).length ≤ 50 := fun s hs => by
    unfold P.nameOk at hs
    simp only [decide_eq_true_eq] at hs
    unfold P.txB
    rw [List.length_append]
    have := hr s.length
    omega
  match i, hi, h with
  | 0, _, _ => show (P.pxX c.p).length ≤ 60; unfold P.pxX; rw [List.length_append]; have := ha c.p.a; simp; omega
  | 1, _, _ => show (P.adX c.a).length ≤ 60; have := ha c.a; omega
  | 2, _, h => show (P.txB c.owner).length ≤ 60; have := ht c.owner h; omega
  | 3, _, h => show (P.txB c.to).length ≤ 60; have := ht c.to h; omega
  | 4, _, _ => show (P.row c.d).length ≤ 60; have := hr c.d; omega
  | 5, _, _ => show (P.row c.fr).length ≤ 60; have := hr c.fr; omega
  | 6, _, _ => show [P.byI c.n].length ≤ 60; simp
theorem P.fsB_len (c : P.Ca) (h : P.rightC c = true) : ∀ k, k ≤ 7 → (P.fsB c 0 k).length ≤ 60 * k
  | 0, _ => by simp [P.fsB]
  | k + 1, hk => by
    have ih := P.fsB_len c h k (by omega)
    rw [P.fsB_snoc, List.length_append, Nat.zero_add]
    have hf := (P.right_all h).2 k (by omega)
    unfold P.fRight at hf
    split
    · rename_i hu
      rw [if_pos hu] at hf
      have := P.fB_len c k (by omega) hf
      omega
    · simp; omega
set_option maxRecDepth 100000 in
set_option maxHeartbeats 8000000 in
theorem write_any (x : P.Ca) (ht : P.tyC x) (ho : x.owner.length ≤ 20000) (hto : x.to.length ≤ 20000) (w : World) (hu : UsesOk w) :
    Calls Tryd.prog 13 #[caV x] w fun e w' => e = .returned (if P.rightC x then .tuple #[S (P.bytesC x), .int .i64 0] else .tuple #[S [], .int .i64 1]) ∧ Below w.heap.size w w' := by
  have HR := Lib.hid (fun wx => right_any x ht (by omega) (by omega) wx)
  have hbx0 := Bx.fresh w 28 #[.int .u8 (x.op : Nat), .int .u8 (x.client : Nat), V64 x.number, .int .u8 (x.p.a.fam : Nat), V64 x.p.a.hi, V64 x.p.a.lo, .int .i64 x.p.bits, .int .u8 (x.a.fam : Nat), V64 x.a.hi, V64 x.a.lo, S x.owner, S x.to, V64 x.d, V64 x.fr, .int .i64 x.n]
  have hA := (Below.refl w.heap.size w).alloc (Nat.le_refl _) (.cells #[.int .u8 (x.op : Nat), .int .u8 (x.client : Nat), V64 x.number, .int .u8 (x.p.a.fam : Nat), V64 x.p.a.hi, V64 x.p.a.lo, .int .i64 x.p.bits, .int .u8 (x.a.fam : Nat), V64 x.a.hi, V64 x.a.lo, S x.owner, S x.to, V64 x.d, V64 x.fr, .int .i64 x.n] 28)
  cases hr : P.rightC x with
  | false =>
    rw [hr] at HR
    rw [if_neg (by simp)]
    clear hr
    go_enter Tryd.func13, Tryd.ntmps13
    go_wp2_with (go_at_call 27; (with_reducible refine (HR.out _).mono ?_); rintro e w1 ⟨rfl, hb1⟩)
    go_ret2
    exact ⟨rfl, Chain.up hA hb1⟩
  | true =>
    rw [hr] at HR
    rw [if_pos rfl]
    have hop := (P.right_all hr).1
    have Hlen := Lib.hid (P.fsB_len x hr)
    have Hsn := Lib.hid (fun k => P.fsB_snoc x k 0)
    have Hand := Lib.hid (fun j (hj : j < 7) => and_use ⟨x.op, by omega⟩ ⟨j, hj⟩)
    have hu1 := hu.2 x.op (by omega)
    have Hbytes := Lib.hid (show P.bytesC x = P.headB x.op x.client x.number ++ P.fsB x 0 7 from rfl)
    have HH := Lib.hid (fun g wr (hw : Wr wr g []) => whead_any g [] x wr (by simp) hw ht.1 ht.2.1 ht.2.2.1)
    have Hhl := Lib.hid (show (P.headB x.op x.client x.number).length = 10 by simp [P.headB, P.be_length])
    clear hr
    go_enter Tryd.func13, Tryd.ntmps13
    go_wp2_with (first
      | (go_at_call 27; (with_reducible refine (HR.out _).mono ?_); rintro e w1 ⟨rfl, hb1⟩; have hbx1 := hbx0.up hb1; have hc1 := Chain.up hA hb1; obtain ⟨⟨c0, c1, c2, c3, c4, c5, c6, c7, c8, c9, c10, c11, c12, c13, c14⟩, -⟩ := hbx1.cells15; have hlt1 := hbx1.lt; have hW0 : Wr (w1.alloc (.cells #[.slice none 0 0] 87)) w1.heap.size [] := ⟨none, 0, Bx.fresh _ _ _, own_nil _ _⟩; have hB1 := (Below.refl w1.heap.size w1).alloc (Nat.le_refl _) (.cells #[.slice none 0 0] 87); have hbx1' := hbx1.up hB1)
      | (go_at_call 31; (with_reducible refine (HH.out _ _ hW0).mono ?_); rintro e w2 ⟨rfl, hW2, hb2, hk2⟩))
    rw [List.nil_append] at hW2
    have hg : w.heap.size < w1.heap.size := hlt1
    have hb02 : Below w.heap.size w w2 := (Chain.up hc1 hB1).trans (hb2.mono (Nat.le_of_lt hg))
    have hbx2 := hbx1'.below hb2 hg
    clear hW0 hB1 hbx1' hb2 hk2 hbx1 hc1 hb1 hA hbx0 c0 c1 c2 c3 c4 c5 c6 c7 c8 c9 c10 c11 c12 c13 c14 HH HR hlt1 hu1
    generalize P.headB x.op x.client x.number = hd at *
    generalize hgg : w1.heap.size = g at *
    clear hgg
    go_loopw [5] (fun f wr => ∃ j : Nat, j ≤ 7 ∧ f = .int .i64 ((2 ^ j : Nat) : Int) ∧ Wr wr g (hd ++ P.fsB x 0 j) ∧ Below w.heap.size w wr ∧ Bx wr w.heap.size 28 #[.int .u8 (x.op : Nat), .int .u8 (x.client : Nat), V64 x.number, .int .u8 (x.p.a.fam : Nat), V64 x.p.a.hi, V64 x.p.a.lo, .int .i64 x.p.bits, .int .u8 (x.a.fam : Nat), V64 x.a.hi, V64 x.a.lo, S x.owner, S x.to, V64 x.d, V64 x.fr, .int .i64 x.n]) (fun f _ => 129 - (intOf f).toNat)
    case atStart => exact ⟨0, by omega, rfl, by rw [show P.fsB x 0 0 = [] from rfl, List.append_nil]; exact hW2, hb02, hbx2⟩
    case round =>
      clear hW2 hb02 hbx2
      obtain ⟨j, hj, rfl, hw, hb, hbx⟩ := hrel
      have hut := (hu.up hb).2 x.op (by omega)
      have hl : (hd ++ P.fsB x 0 j).length ≤ 800000 := by have := Hlen.out j hj; have := Hhl.out; rw [List.length_append]; omega
      have Hs := Lib.hid (Hsn.out j)
      rcases (show j = 0 ∨ j = 1 ∨ j = 2 ∨ j = 3 ∨ j = 4 ∨ j = 5 ∨ j = 6 ∨ j = 7 by omega) with rfl | rfl | rfl | rfl | rfl | rfl | rfl | rfl
      · rw [show ((2 ^ 0 : Nat) : Int) = 1 from rfl]
        obtain ⟨⟨c0, -, -, c3, c4, c5, c6, -, -, -, -, -, -, -, -⟩, -⟩ := hbx.cells15
        have hand := Hand.out 0 (by omega)
        cases hus : P.use x.op 0 with
        | true =>
          rw [hus, if_pos rfl, show ((2 ^ 0 : Nat) : Int) = 1 from rfl] at hand
          have hs := Hs.out
          rw [Nat.zero_add, hus, if_pos rfl, show P.fB x 0 = P.pxX x.p from rfl] at hs
          have Hs2 := Lib.hid hs
          clear hs Hs hus
          generalize hLL : hd ++ P.fsB x 0 0 = L at *
          have HLL := Lib.hid hLL
          clear hLL
          have HC := Lib.hid (wprefix_any g L x.p wr (by omega) hw ht.2.2.2.1)
          go_wp2_with (go_at_call 32; (with_reducible refine HC.out.mono ?_); rintro e w3 ⟨rfl, hw3, hb3, hk3⟩)
          go_roundw
          case rel => exact ⟨1, by omega, rfl, by rw [Hs2.out, ← List.append_assoc, HLL.out]; exact hw3, hb.trans (hb3.mono (Nat.le_of_lt hg)), hbx.below hb3 hg⟩
          case measure => simp [intOf]
        | false =>
          rw [hus, if_neg (by simp), show ((2 ^ 0 : Nat) : Int) = 1 from rfl] at hand
          have hs := Hs.out
          rw [Nat.zero_add, hus, if_neg (by simp), List.append_nil] at hs
          have Hs2 := Lib.hid hs
          clear hs Hs hus
          go_wp2_with fail
          go_roundw
          case rel => exact ⟨1, by omega, rfl, by rw [Hs2.out]; exact hw, hb, hbx⟩
          case measure => simp [intOf]
      · rw [show ((2 ^ 1 : Nat) : Int) = 2 from rfl]
        obtain ⟨⟨c0, -, -, -, -, -, -, c7, c8, c9, -, -, -, -, -⟩, -⟩ := hbx.cells15
        have hand := Hand.out 1 (by omega)
        cases hus : P.use x.op 1 with
        | true =>
          rw [hus, if_pos rfl, show ((2 ^ 1 : Nat) : Int) = 2 from rfl] at hand
          have hs := Hs.out
          rw [Nat.zero_add, hus, if_pos rfl, show P.fB x 1 = P.adX x.a from rfl] at hs
          have Hs2 := Lib.hid hs
          clear hs Hs hus
          generalize hLL : hd ++ P.fsB x 0 1 = L at *
          have HLL := Lib.hid hLL
          clear hLL
          have HC := Lib.hid (waddr_any g L x.a wr (by omega) hw ht.2.2.2.2.1)
          go_wp2_with (go_at_call 33; (with_reducible refine HC.out.mono ?_); rintro e w3 ⟨rfl, hw3, hb3, hk3⟩)
          go_roundw
          case rel => exact ⟨2, by omega, rfl, by rw [Hs2.out, ← List.append_assoc, HLL.out]; exact hw3, hb.trans (hb3.mono (Nat.le_of_lt hg)), hbx.below hb3 hg⟩
          case measure => simp [intOf]
        | false =>
          rw [hus, if_neg (by simp), show ((2 ^ 1 : Nat) : Int) = 2 from rfl] at hand
          have hs := Hs.out
          rw [Nat.zero_add, hus, if_neg (by simp), List.append_nil] at hs
          have Hs2 := Lib.hid hs
          clear hs Hs hus
          go_wp2_with fail
          go_roundw
          case rel => exact ⟨2, by omega, rfl, by rw [Hs2.out]; exact hw, hb, hbx⟩
          case measure => simp [intOf]
      · rw [show ((2 ^ 2 : Nat) : Int) = 4 from rfl]
        obtain ⟨⟨c0, -, -, -, -, -, -, -, -, -, c10, -, -, -, -⟩, -⟩ := hbx.cells15
        have hand := Hand.out 2 (by omega)
        cases hus : P.use x.op 2 with
        | true =>
          rw [hus, if_pos rfl, show ((2 ^ 2 : Nat) : Int) = 4 from rfl] at hand
          have hs := Hs.out
          rw [Nat.zero_add, hus, if_pos rfl, show P.fB x 2 = P.txB x.owner from rfl] at hs
          have Hs2 := Lib.hid hs
          clear hs Hs hus
          generalize hLL : hd ++ P.fsB x 0 2 = L at *
          have HLL := Lib.hid hLL
          clear hLL
          have HC := Lib.hid (wtext_any g L x.owner wr (by omega) hw (by omega))
          go_wp2_with (go_at_call 34; (with_reducible refine HC.out.mono ?_); rintro e w3 ⟨rfl, hw3, hb3, hk3⟩)
          go_roundw
          case rel => exact ⟨3, by omega, rfl, by rw [Hs2.out, ← List.append_assoc, HLL.out]; exact hw3, hb.trans (hb3.mono (Nat.le_of_lt hg)), hbx.below hb3 hg⟩
          case measure => simp [intOf]
        | false =>
          rw [hus, if_neg (by simp), show ((2 ^ 2 : Nat) : Int) = 4 from rfl] at hand
          have hs := Hs.out
          rw [Nat.zero_add, hus, if_neg (by simp), List.append_nil] at hs
          have Hs2 := Lib.hid hs
          clear hs Hs hus
          go_wp2_with fail
          go_roundw
          case rel => exact ⟨3, by omega, rfl, by rw [Hs2.out]; exact hw, hb, hbx⟩
          case measure => simp [intOf]
      · rw [show ((2 ^ 3 : Nat) : Int) = 8 from rfl]
        obtain ⟨⟨c0, -, -, -, -, -, -, -, -, -, -, c11, -, -, -⟩, -⟩ := hbx.cells15
        have hand := Hand.out 3 (by omega)
        cases hus : P.use x.op 3 with
        | true =>
          rw [hus, if_pos rfl, show ((2 ^ 3 : Nat) : Int) = 8 from rfl] at hand
          have hs := Hs.out
          rw [Nat.zero_add, hus, if_pos rfl, show P.fB x 3 = P.txB x.to from rfl] at hs
          have Hs2 := Lib.hid hs
          clear hs Hs hus
          generalize hLL : hd ++ P.fsB x 0 3 = L at *
          have HLL := Lib.hid hLL
          clear hLL
          have HC := Lib.hid (wtext_any g L x.to wr (by omega) hw (by omega))
          go_wp2_with (go_at_call 34; (with_reducible refine HC.out.mono ?_); rintro e w3 ⟨rfl, hw3, hb3, hk3⟩)
          go_roundw
          case rel => exact ⟨4, by omega, rfl, by rw [Hs2.out, ← List.append_assoc, HLL.out]; exact hw3, hb.trans (hb3.mono (Nat.le_of_lt hg)), hbx.below hb3 hg⟩
          case measure => simp [intOf]
        | false =>
          rw [hus, if_neg (by simp), show ((2 ^ 3 : Nat) : Int) = 8 from rfl] at hand
          have hs := Hs.out
          rw [Nat.zero_add, hus, if_neg (by simp), List.append_nil] at hs
          have Hs2 := Lib.hid hs
          clear hs Hs hus
          go_wp2_with fail
          go_roundw
          case rel => exact ⟨4, by omega, rfl, by rw [Hs2.out]; exact hw, hb, hbx⟩
          case measure => simp [intOf]
      · rw [show ((2 ^ 4 : Nat) : Int) = 16 from rfl]
        obtain ⟨⟨c0, -, -, -, -, -, -, -, -, -, -, -, c12, -, -⟩, -⟩ := hbx.cells15
        have hand := Hand.out 4 (by omega)
        cases hus : P.use x.op 4 with
        | true =>
          rw [hus, if_pos rfl, show ((2 ^ 4 : Nat) : Int) = 16 from rfl] at hand
          have hs := Hs.out
          rw [Nat.zero_add, hus, if_pos rfl, show P.fB x 4 = P.row x.d from rfl] at hs
          have Hs2 := Lib.hid hs
          clear hs Hs hus
          generalize hLL : hd ++ P.fsB x 0 4 = L at *
          have HLL := Lib.hid hLL
          clear hLL
          have HC := Lib.hid (wnumber_any g L x.d wr (by omega) hw ht.2.2.2.2.2.1)
          go_wp2_with (go_at_call 35; (with_reducible refine HC.out.mono ?_); rintro e w3 ⟨rfl, hw3, hb3, hk3⟩)
          go_roundw
          case rel => exact ⟨5, by omega, rfl, by rw [Hs2.out, ← List.append_assoc, HLL.out]; exact hw3, hb.trans (hb3.mono (Nat.le_of_lt hg)), hbx.below hb3 hg⟩
          case measure => simp [intOf]
        | false =>
          rw [hus, if_neg (by simp), show ((2 ^ 4 : Nat) : Int) = 16 from rfl] at hand
          have hs := Hs.out
          rw [Nat.zero_add, hus, if_neg (by simp), List.append_nil] at hs
          have Hs2 := Lib.hid hs
          clear hs Hs hus
          go_wp2_with fail
          go_roundw
          case rel => exact ⟨5, by omega, rfl, by rw [Hs2.out]; exact hw, hb, hbx⟩
          case measure => simp [intOf]
      · rw [show ((2 ^ 5 : Nat) : Int) = 32 from rfl]
        obtain ⟨⟨c0, -, -, -, -, -, -, -, -, -, -, -, -, c13, -⟩, -⟩ := hbx.cells15
        have hand := Hand.out 5 (by omega)
        cases hus : P.use x.op 5 with
        | true =>
          rw [hus, if_pos rfl, show ((2 ^ 5 : Nat) : Int) = 32 from rfl] at hand
          have hs := Hs.out
          rw [Nat.zero_add, hus, if_pos rfl, show P.fB x 5 = P.row x.fr from rfl] at hs
          have Hs2 := Lib.hid hs
          clear hs Hs hus
          generalize hLL : hd ++ P.fsB x 0 5 = L at *
          have HLL := Lib.hid hLL
          clear hLL
          have HC := Lib.hid (wnumber_any g L x.fr wr (by omega) hw ht.2.2.2.2.2.2.1)
          go_wp2_with (go_at_call 35; (with_reducible refine HC.out.mono ?_); rintro e w3 ⟨rfl, hw3, hb3, hk3⟩)
          go_roundw
          case rel => exact ⟨6, by omega, rfl, by rw [Hs2.out, ← List.append_assoc, HLL.out]; exact hw3, hb.trans (hb3.mono (Nat.le_of_lt hg)), hbx.below hb3 hg⟩
          case measure => simp [intOf]
        | false =>
          rw [hus, if_neg (by simp), show ((2 ^ 5 : Nat) : Int) = 32 from rfl] at hand
          have hs := Hs.out
          rw [Nat.zero_add, hus, if_neg (by simp), List.append_nil] at hs
          have Hs2 := Lib.hid hs
          clear hs Hs hus
          go_wp2_with fail
          go_roundw
          case rel => exact ⟨6, by omega, rfl, by rw [Hs2.out]; exact hw, hb, hbx⟩
          case measure => simp [intOf]
      · rw [show ((2 ^ 6 : Nat) : Int) = 64 from rfl]
        obtain ⟨⟨c0, -, -, -, -, -, -, -, -, -, -, -, -, -, c14⟩, -⟩ := hbx.cells15
        have hand := Hand.out 6 (by omega)
        cases hus : P.use x.op 6 with
        | true =>
          rw [hus, if_pos rfl, show ((2 ^ 6 : Nat) : Int) = 64 from rfl] at hand
          have hs := Hs.out
          rw [Nat.zero_add, hus, if_pos rfl, show P.fB x 6 = [P.byI x.n] from rfl] at hs
          have Hs2 := Lib.hid hs
          clear hs Hs hus
          generalize hLL : hd ++ P.fsB x 0 6 = L at *
          have HLL := Lib.hid hLL
          clear hLL
          have HC := Lib.hid (wbyte_any g L x.n wr (by omega) hw)
          go_wp2_with (go_at_call 36; (with_reducible refine HC.out.mono ?_); rintro e w3 ⟨rfl, hw3, hb3, hk3⟩)
          go_roundw
          case rel => exact ⟨7, by omega, rfl, by rw [Hs2.out, ← List.append_assoc, HLL.out]; exact hw3, hb.trans (hb3.mono (Nat.le_of_lt hg)), hbx.below hb3 hg⟩
          case measure => simp [intOf]
        | false =>
          rw [hus, if_neg (by simp), show ((2 ^ 6 : Nat) : Int) = 64 from rfl] at hand
          have hs := Hs.out
          rw [Nat.zero_add, hus, if_neg (by simp), List.append_nil] at hs
          have Hs2 := Lib.hid hs
          clear hs Hs hus
          go_wp2_with fail
          go_roundw
          case rel => exact ⟨7, by omega, rfl, by rw [Hs2.out]; exact hw, hb, hbx⟩
          case measure => simp [intOf]
      · rw [show ((2 ^ 7 : Nat) : Int) = 128 from rfl]
        rw [← Hbytes.out] at hw
        obtain ⟨a, c, hwx, hwo⟩ := hw
        have q0 : wr.cell? ⟨g, 0, none⟩ = some (.slice a (P.bytesC x).length c) := hwx.cell 0
        go_wp2_with (refine wpList_conv_own (by rfl) hwo ?_)
        go_ret2
        exact ⟨rfl, hb⟩
end Go.Proofs.YtcobfoiajdbahaaDoor
