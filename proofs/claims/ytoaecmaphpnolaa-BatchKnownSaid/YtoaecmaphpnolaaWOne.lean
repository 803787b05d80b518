/- The walk of batch's one: the operation that a text begins with. -/
import Derived.Test.YtoaecmaphpnolaaWEnc
import Derived.BigRegion
namespace Go.Proofs.Ytoaecmaphpnolaa
open Go.RowKit
set_option linter.unusedVariables false

/-- A box of an operation that is known whole. -/
def OBox (w : World) (g : Nat) (k v : List UInt8) (b : Bool) : Prop := w.heap[g]? = some (.cells #[S k, S v, .bool b] 24 (0, 0))
theorem OBox.lt {w : World} {g : Nat} {k v : List UInt8} {b : Bool} (h : OBox w g k v b) : g < w.heap.size := by
  rcases Nat.lt_or_ge g w.heap.size with hlt | hge
  · exact hlt
  · unfold OBox at h; rw [Array.getElem?_eq_none hge] at h; cases h
theorem OBox.up {w w' : World} {g : Nat} {k v : List UInt8} {b : Bool} (h : OBox w g k v b) (hb : Below w.heap.size w w') : OBox w' g k v b := (hb.block g h.lt).trans h
theorem OBox.fresh (w : World) (k v : List UInt8) (b : Bool) : OBox (w.alloc (.cells #[S k, S v, .bool b] 24)) w.heap.size k v b := by
  unfold OBox World.alloc
  simp
theorem OBox.cell {w : World} {g : Nat} {k v : List UInt8} {b : Bool} (h : OBox w g k v b) :
    w.cell? ⟨g, 0, none⟩ = some (S k) ∧ w.cell? ⟨g, 1, none⟩ = some (S v) ∧ w.cell? ⟨g, 2, none⟩ = some (.bool b) := by
  unfold OBox at h
  simp [World.cell?, h]
theorem OBox.frozen {w : World} {g : Nat} {k v : List UInt8} {b : Bool} (h : OBox w g k v b) (i : Nat) : w.frozen? ⟨g, i, none⟩ = false := by
  unfold OBox at h
  simp [World.frozen?, h]
theorem OBox.set {w : World} {g : Nat} {k v : List UInt8} {b : Bool} (h : OBox w g k v b) (k' v' : List UInt8) (b' : Bool) :
    OBox (((w.setCell ⟨g, 0, none⟩ (S k')).setCell ⟨g, 1, none⟩ (S v')).setCell ⟨g, 2, none⟩ (.bool b')) g k' v' b' := by
  unfold OBox at h ⊢
  simp [World.setCell, Array.getElem?_modify, h]
theorem OBox.drew {w : World} {g : Nat} {k v : List UInt8} {b : Bool} (h : OBox w g k v b) : OBox w.drew g k v b := h
theorem below_set3 {B : Nat} {a w : World} (h : Below B a w) {g : Nat} (hg : B ≤ g) (v0 v1 v2 : Value) :
    Below B a (((w.setCell ⟨g, 0, none⟩ v0).setCell ⟨g, 1, none⟩ v1).setCell ⟨g, 2, none⟩ v2) := ((h.setCell hg _).setCell hg _).setCell hg _
theorem str_dropN (s : List UInt8) (k : Nat) : (ByteArray.mk s.toArray).extract k s.length = ⟨(s.drop k).toArray⟩ := by
  rw [ByteArray.extract_mk]
  congr 2
  exact List.take_of_length_le (by simp)

/-- What 'one' gives back. -/
def P.oneV (s : List UInt8) : Value := match P.readOp s with
  | some (o, n) => .tuple #[opV o, S (s.drop n), .bool true]
  | none => .tuple #[.agg #[S [], S [], .bool false], S [], .bool false]

theorem obox_call {w w1 : World} (hb1 : Below (w.alloc (.cells #[S [], S [], .bool false] 24)).heap.size (w.alloc (.cells #[S [], S [], .bool false] 24)) w1) :
    OBox w1 w.heap.size [] [] false ∧ Below w.heap.size w w1 := ⟨(OBox.fresh w [] [] false).up hb1, ((Below.refl _ _).alloc (Nat.le_refl _) _).trans (hb1.mono (by simp))⟩

attribute [local go_sem] str_take str_dropN

/-- What 'one' gives back where there is none. -/
abbrev noOne : Value := .tuple #[.agg #[S [], S [], .bool false], S [], .bool false]
set_option maxRecDepth 100000 in
set_option maxHeartbeats 4000000 in
theorem one_nil (w : World) :
    Calls Try.prog 31 #[S []] w fun e w' => e = .returned noOne ∧ Below w.heap.size w w' := by
  have h0 : Below w.heap.size w (w.alloc (.cells #[S [], S [], .bool false] 24)) := (Below.refl _ _).alloc (Nat.le_refl _) _
  go_enter Try.func31, Try.ntmps31
  go_wp2
  exact bodyPost_ret (v := noOne) (by simp [results, Try.results31, go_sem]) rfl ⟨rfl, h0⟩

set_option maxRecDepth 100000 in
set_option maxHeartbeats 4000000 in
theorem one_bad (c : UInt8) (s : List UInt8) (w : World) (hs : s.length ≤ 1000000) (hne : 1 ≤ s.length) (hc : s.take 1 = [c]) (hno : ¬ (P.tOk s.tail 64 = true ∧ (c = 0 ∨ c = 1))) :
    Calls Try.prog 31 #[S s] w fun e w' => e = .returned noOne ∧ Below w.heap.size w w' := by
  have hnb : (s == []) = false := by cases s with
    | nil => simp at hne
    | cons a b => rfl
  have hld : s.tail.length ≤ 1000000 := by rw [List.length_tail]; omega
  have HT := Lib.hid (fun w => readText_any s.tail 64 w (by omega) (by omega) (by omega))
  generalize P.tText s.tail 64 = tt at *
  generalize P.tSize s.tail 64 = sz at *
  cases hok : P.tOk s.tail 64 with
  | false =>
    rw [hok] at HT
    clear hno hok
    go_enter Try.func31, Try.ntmps31
    go_wp2_with (go_at_call 41; (with_reducible refine (HT.out _).mono ?_); rintro e w1 ⟨rfl, hb1⟩; obtain ⟨hbx, hc1⟩ := obox_call hb1; obtain ⟨x0, x1, x2⟩ := hbx.cell; have f0 := hbx.frozen 0; have f1 := hbx.frozen 1; have f2 := hbx.frozen 2)
    obtain ⟨y0, y1, y2⟩ := (hbx.set [] [] false).cell
    exact bodyPost_ret (v := noOne) (by simp [results, Try.results31, go_sem, y0, y1, y2]) rfl ⟨rfl, below_set3 hc1 (Nat.le_refl _) _ _ _⟩
  | true =>
    have h0 : ([c] == [0]) = false := beq_eq_false_iff_ne.2 (fun h => hno ⟨hok, .inl (by injection h)⟩)
    have h1 : ([c] == [1]) = false := beq_eq_false_iff_ne.2 (fun h => hno ⟨hok, .inr (by injection h)⟩)
    rw [hok] at HT
    clear hno hok
    go_enter Try.func31, Try.ntmps31
    go_wp2_with (go_at_call 41; (with_reducible refine (HT.out _).mono ?_); rintro e w1 ⟨rfl, hb1⟩; obtain ⟨hbx, hc1⟩ := obox_call hb1; obtain ⟨x0, x1, x2⟩ := hbx.cell; have f0 := hbx.frozen 0; have f1 := hbx.frozen 1; have f2 := hbx.frozen 2)
    obtain ⟨y0, y1, y2⟩ := (hbx.set [] [] false).cell
    exact bodyPost_ret (v := noOne) (by simp [results, Try.results31, go_sem, y0, y1, y2]) rfl ⟨rfl, below_set3 hc1 (Nat.le_refl _) _ _ _⟩

set_option maxRecDepth 100000 in
set_option maxHeartbeats 4000000 in
theorem one_gone (s : List UInt8) (w : World) (hs : s.length ≤ 1000000) (hne : 1 ≤ s.length) (hc : s.take 1 = [1]) (hok : P.tOk s.tail 64 = true) :
    Calls Try.prog 31 #[S s] w fun e w' => e = .returned (.tuple #[opV ⟨P.tText s.tail 64, [], true⟩, S (s.drop (1 + P.tSize s.tail 64)), .bool true]) ∧ Below w.heap.size w w' := by
  have hnb : (s == []) = false := by cases s with
    | nil => simp at hne
    | cons a b => rfl
  have hld : s.tail.length ≤ 1000000 := by rw [List.length_tail]; omega
  have HT := Lib.hid (fun w => readText_any s.tail 64 w (by omega) (by omega) (by omega))
  have hsz : 1 + P.tSize s.tail 64 ≤ s.length := by have := (P.tOk_row hok).2.1; rw [List.length_tail] at this; omega
  rw [hok] at HT
  generalize P.tText s.tail 64 = tt at *
  generalize P.tSize s.tail 64 = sz at *
  clear hok
  go_enter Try.func31, Try.ntmps31
  go_wp2_with (go_at_call 41; (with_reducible refine (HT.out _).mono ?_); rintro e w1 ⟨rfl, hb1⟩; obtain ⟨hbx, hc1⟩ := obox_call hb1; obtain ⟨x0, x1, x2⟩ := hbx.cell; have f0 := hbx.frozen 0; have f1 := hbx.frozen 1; have f2 := hbx.frozen 2)
  obtain ⟨y0, y1, y2⟩ := (hbx.set tt [] true).cell
  exact bodyPost_ret (v := .tuple #[opV ⟨tt, [], true⟩, S (s.drop (1 + sz)), .bool true]) (by simp [results, Try.results31, go_sem, y0, y1, y2]) rfl ⟨rfl, below_set3 hc1 (Nat.le_refl _) _ _ _⟩

set_option maxRecDepth 100000 in
set_option maxHeartbeats 4000000 in
theorem one_put_no (s : List UInt8) (w : World) (hs : s.length ≤ 1000000) (hne : 1 ≤ s.length) (hc : s.take 1 = [0]) (hok : P.tOk s.tail 64 = true) (hno : P.tOk (s.drop (1 + P.tSize s.tail 64)) 512 = false) :
    Calls Try.prog 31 #[S s] w fun e w' => e = .returned noOne ∧ Below w.heap.size w w' := by
  have hnb : (s == []) = false := by cases s with
    | nil => simp at hne
    | cons a b => rfl
  have hld : s.tail.length ≤ 1000000 := by rw [List.length_tail]; omega
  have HT := Lib.hid (fun w => readText_any s.tail 64 w (by omega) (by omega) (by omega))
  have hsz : 1 + P.tSize s.tail 64 ≤ s.length := by have := (P.tOk_row hok).2.1; rw [List.length_tail] at this; omega
  have HU := Lib.hid (fun w => readText_any (s.drop (1 + P.tSize s.tail 64)) 512 w (by rw [List.length_drop]; omega) (by omega) (by omega))
  rw [hok] at HT
  rw [hno] at HU
  generalize P.tText s.tail 64 = tt at *
  generalize P.tSize s.tail 64 = sz at *
  generalize P.tText (s.drop (1 + sz)) 512 = tu at *
  generalize P.tSize (s.drop (1 + sz)) 512 = su at *
  clear hok hno
  go_enter Try.func31, Try.ntmps31
  go_wp2_with (first
    | (go_at_call 41; (with_reducible refine (HT.out _).mono ?_); rintro e w1 ⟨rfl, hb1⟩; obtain ⟨hbx, hc1⟩ := obox_call hb1)
    | (go_at_call 41; (with_reducible refine (HU.out _).mono ?_); rintro e w2 ⟨rfl, hb2⟩; have hbx2 := hbx.up hb2; have hc2 := Chain.up hc1 hb2; obtain ⟨x0, x1, x2⟩ := hbx2.cell; have f0 := hbx2.frozen 0; have f1 := hbx2.frozen 1; have f2 := hbx2.frozen 2))
  obtain ⟨y0, y1, y2⟩ := (hbx2.set [] [] false).cell
  exact bodyPost_ret (v := noOne) (by simp [results, Try.results31, go_sem, y0, y1, y2]) rfl ⟨rfl, below_set3 hc2 (Nat.le_refl _) _ _ _⟩

set_option maxRecDepth 100000 in
set_option maxHeartbeats 4000000 in
theorem one_put (s : List UInt8) (w : World) (hs : s.length ≤ 1000000) (hne : 1 ≤ s.length) (hc : s.take 1 = [0]) (hok : P.tOk s.tail 64 = true) (hyes : P.tOk (s.drop (1 + P.tSize s.tail 64)) 512 = true) :
    Calls Try.prog 31 #[S s] w fun e w' => e = .returned (.tuple #[opV ⟨P.tText s.tail 64, P.tText (s.drop (1 + P.tSize s.tail 64)) 512, false⟩, S (s.drop (1 + P.tSize s.tail 64 + P.tSize (s.drop (1 + P.tSize s.tail 64)) 512)), .bool true]) ∧ Below w.heap.size w w' := by
  have hnb : (s == []) = false := by cases s with
    | nil => simp at hne
    | cons a b => rfl
  have hld : s.tail.length ≤ 1000000 := by rw [List.length_tail]; omega
  have HT := Lib.hid (fun w => readText_any s.tail 64 w (by omega) (by omega) (by omega))
  have hsz : 1 + P.tSize s.tail 64 ≤ s.length := by have := (P.tOk_row hok).2.1; rw [List.length_tail] at this; omega
  have HU := Lib.hid (fun w => readText_any (s.drop (1 + P.tSize s.tail 64)) 512 w (by rw [List.length_drop]; omega) (by omega) (by omega))
  have hsu := (P.tOk_row hyes).2.1
  rw [hok] at HT
  rw [hyes] at HU
  generalize P.tText s.tail 64 = tt at *
  generalize P.tSize s.tail 64 = sz at *
  generalize P.tText (s.drop (1 + sz)) 512 = tu at *
  generalize P.tSize (s.drop (1 + sz)) 512 = su at *
  clear hok hyes
  have hsu2 : su ≤ s.length - (1 + sz) := by rwa [List.length_drop] at hsu
  clear hsu
  have hdd : (s.drop (1 + sz)).drop su = s.drop (1 + sz + su) := List.drop_drop
  go_enter Try.func31, Try.ntmps31
  go_wp2_with (first
    | (go_at_call 41; (with_reducible refine (HT.out _).mono ?_); rintro e w1 ⟨rfl, hb1⟩; obtain ⟨hbx, hc1⟩ := obox_call hb1)
    | (go_at_call 41; (with_reducible refine (HU.out _).mono ?_); rintro e w2 ⟨rfl, hb2⟩; have hbx2 := hbx.up hb2; have hc2 := Chain.up hc1 hb2; obtain ⟨x0, x1, x2⟩ := hbx2.cell; have f0 := hbx2.frozen 0; have f1 := hbx2.frozen 1; have f2 := hbx2.frozen 2))
  go_region
  go_wp2
  obtain ⟨y0, y1, y2⟩ := (hbx2.set tt tu false).drew.cell
  have hex : (ByteArray.mk (s.drop (1 + sz)).toArray).extract su (s.length - (1 + sz)) = ⟨(s.drop (1 + sz + su)).toArray⟩ := by
    rw [← List.length_drop, str_dropN, hdd]
  exact bodyPost_ret (v := .tuple #[opV ⟨tt, tu, false⟩, S (s.drop (1 + sz + su)), .bool true]) (by simp [results, Try.results31, go_sem, y0, y1, y2, hex]) rfl ⟨rfl, (below_set3 hc2 (Nat.le_refl _) _ _ _).drew⟩

theorem take1_at (s : List UInt8) (hne : 1 ≤ s.length) (c : UInt8) (h : P.at_ s 0 = c.toNat) : s.take 1 = [c] := by
  have := P.take_head s 0 (by omega)
  rw [List.take_zero, h, P.byt_eq] at this
  exact this
theorem one_any (s : List UInt8) (w : World) (hs : s.length ≤ 1000000) :
    Calls Try.prog 31 #[S s] w fun e w' => e = .returned (P.oneV s) ∧ Below w.heap.size w w' := by
  have hno : P.readOp s = none → P.oneV s = noOne := fun h => by unfold P.oneV; rw [h]
  by_cases h0 : s.length = 0
  · rw [hno (by unfold P.readOp; rw [if_pos h0]), List.length_eq_zero_iff.1 h0]
    exact one_nil w
  · have hne : 1 ≤ s.length := by omega
    obtain ⟨c, hc⟩ : ∃ c : UInt8, P.at_ s 0 = c.toNat := by
      cases s with
      | nil => simp at hne
      | cons a b => exact ⟨a, rfl⟩
    have hc1 := take1_at s hne c hc
    have hr : P.readOp s = if P.tOk s.tail 64 = true ∧ (P.at_ s 0 = 0 ∨ P.at_ s 0 = 1) then
        if P.at_ s 0 = 1 then some (⟨P.tText s.tail 64, [], true⟩, 1 + P.tSize s.tail 64)
        else if P.tOk (s.drop (1 + P.tSize s.tail 64)) 512 = true then
          some (⟨P.tText s.tail 64, P.tText (s.drop (1 + P.tSize s.tail 64)) 512, false⟩, 1 + P.tSize s.tail 64 + P.tSize (s.drop (1 + P.tSize s.tail 64)) 512)
        else none
      else none := by
      unfold P.readOp
      rw [if_neg h0, List.drop_one]
    have hcz : (c = 0 ∨ c = 1) ↔ (P.at_ s 0 = 0 ∨ P.at_ s 0 = 1) := by
      rw [hc]
      constructor
      · rintro (rfl | rfl)
        · exact .inl rfl
        · exact .inr rfl
      · rintro (h | h)
        · exact .inl (UInt8.toNat_inj.1 h)
        · exact .inr (UInt8.toNat_inj.1 h)
    by_cases h1 : P.tOk s.tail 64 = true ∧ (P.at_ s 0 = 0 ∨ P.at_ s 0 = 1)
    · rw [if_pos h1] at hr
      by_cases h2 : P.at_ s 0 = 1
      · rw [if_pos h2] at hr
        have hv : P.oneV s = .tuple #[opV ⟨P.tText s.tail 64, [], true⟩, S (s.drop (1 + P.tSize s.tail 64)), .bool true] := by unfold P.oneV; rw [hr]
        rw [hv]
        obtain rfl : c = 1 := UInt8.toNat_inj.1 (hc.symm.trans h2)
        exact one_gone s w hs hne hc1 h1.1
      · rw [if_neg h2] at hr
        have h3 : P.at_ s 0 = 0 := by omega
        obtain rfl : c = 0 := UInt8.toNat_inj.1 (hc.symm.trans h3)
        by_cases h4 : P.tOk (s.drop (1 + P.tSize s.tail 64)) 512 = true
        · rw [if_pos h4] at hr
          have hv : P.oneV s = .tuple #[opV ⟨P.tText s.tail 64, P.tText (s.drop (1 + P.tSize s.tail 64)) 512, false⟩, S (s.drop (1 + P.tSize s.tail 64 + P.tSize (s.drop (1 + P.tSize s.tail 64)) 512)), .bool true] := by unfold P.oneV; rw [hr]
          rw [hv]
          exact one_put s w hs hne hc1 h1.1 h4
        · rw [if_neg h4] at hr
          rw [hno hr]
          exact one_put_no s w hs hne hc1 h1.1 (by simpa using h4)
    · rw [if_neg h1] at hr
      rw [hno hr]
      exact one_bad c s w hs hne hc1 (fun h => h1 ⟨h.1, hcz.1 h.2⟩)
end Go.Proofs.Ytoaecmaphpnolaa
