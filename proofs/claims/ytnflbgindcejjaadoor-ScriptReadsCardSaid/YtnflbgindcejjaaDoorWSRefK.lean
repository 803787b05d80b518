/- The walk of the document's take (script). -/
import Derived.Test.YtnflbgindcejjaaDoorWSRefT2
import Derived.Test.YtnflbgindcejjaaDoorWSAct
import Derived.Test.YtnflbgindcejjaaDoorWText
import Derived.Test.YtnflbgindcejjaaDoorWInv
namespace Go.Proofs.YtnflbgindcejjaaDoor
open Go.RowKit
set_option linter.unusedVariables false
set_option linter.unusedSimpArgs false
attribute [local go_sem] str_dropS str_takeS str_at

theorem below_set7 {B : Nat} {a w : World} (h : Below B a w) {g : Nat} (hg : B ≤ g) (v0 v1 v2 v3 v4 v5 v6 : Value) :
    Below B a (((((((w.setCell ⟨g, 0, none⟩ v0).setCell ⟨g, 1, none⟩ v1).setCell ⟨g, 2, none⟩ v2).setCell ⟨g, 3, none⟩ v3).setCell ⟨g, 4, none⟩ v4).setCell ⟨g, 5, none⟩ v5).setCell ⟨g, 6, none⟩ v6) := ((((((h.setCell hg _).setCell hg _).setCell hg _).setCell hg _).setCell hg _).setCell hg _).setCell hg _
/-- What take gives. -/
def TakeADid (s : List UInt8) (p : Nat) (w : World) (e : Ending) (w' : World) : Prop :=
  ((P.rdAct (s.drop p) = none ∧ ∃ r : AcR, e = .returned (.tuple #[.agg (acCells r).toArray, .int .i64 (-1)])) ∨
    ∃ (r : AcR) (q : Nat), P.rdAct (s.drop p) = some (r.x, s.drop q) ∧ p < q ∧ q ≤ s.length ∧ e = .returned (.tuple #[.agg (acCells r).toArray, .int .i64 q]) ∧ AcOwn w' w.heap.size r) ∧ Below w.heap.size w w'
theorem P.rdAct_5 {s t : List UInt8} (h : P.rdC s = some (5, t)) : P.rdAct s = (match P.rdC t with | none => none | some (n, u) => match P.rdP n u with | none => none | some (d, x) => some ((⟨5, 0, [], d, P.noCr⟩ : P.Ac), x)) := by
  unfold P.rdAct; rw [h]; rfl
theorem P.rdAct_6 {s t : List UInt8} (h : P.rdC s = some (6, t)) : P.rdAct s = (match P.rdN t with | none => none | some (n, u) => match P.rdCrash u with | none => none | some (c, x) => some ((⟨6, n, [], [], c⟩ : P.Ac), x)) := by
  unfold P.rdAct; rw [h]; rfl
theorem P.rdAct_7 {s t : List UInt8} (h : P.rdC s = some (7, t)) : P.rdAct s = (match P.rdCrash t with | none => none | some (c, x) => some ((⟨7, 0, [], [], c⟩ : P.Ac), x)) := by
  unfold P.rdAct; rw [h]; rfl
theorem P.rdP_no {n : Nat} {s : List UInt8} (h : s.length < n) : P.rdP n s = none := by unfold P.rdP; rw [if_neg (by omega)]
theorem P.rdP_yes {n : Nat} {s : List UInt8} (h : n ≤ s.length) : P.rdP n s = some (s.take n, s.drop n) := by unfold P.rdP; rw [if_pos h]
theorem wrap_sum (a b c : Nat) (h : (a : Int) + (b : Int) = (c : Int)) (hc : c ≤ 1000000) : IntKind.i64.wrap (IntKind.i64.wrap (a : Int) + (b : Int)) = (c : Int) := by
  rw [IntWalk.i64_in (a : Int) (by omega), h, IntWalk.i64_in _ (by omega)]
theorem AcOwn.plain (w : World) (B : Nat) (k n : Nat) (t : List UInt8) : AcOwn w B ⟨⟨k, n, t, [], P.noCr⟩, none, 0, none, 0, none, 0⟩ := ⟨Dr.nil _ _, ownR_nil _ _, ownR_nil _ _⟩

set_option maxRecDepth 100000 in
set_option maxHeartbeats 8000000 in
theorem take_0 (s : List UInt8) (p : Nat) (hp : p < s.length) (hs : s.length ≤ 1000000) (w : World) (hk : P.at_ s p = 0) :
    Calls Tryd.prog 28 #[S s, .int .i64 p] w (TakeADid s p w) := by
  have HS := Lib.hid hs
  have HC1 := Lib.hid (P.rdC_at hp)
  obtain ⟨p1, hp1'⟩ : ∃ p1, p1 = p + 1 := ⟨_, rfl⟩
  have hp1 : (p : Int) + 1 = (p1 : Int) := by omega
  have hp1s : p1 ≤ s.length := by omega
  have hpp1 : p < p1 := by omega
  rw [← hp1'] at HC1
  clear hp1'
  have hr0 := (Bx.fresh w 32 #[.int .u8 0, .int .u64 0, S [], .slice none 0 0, .int .i64 0, .slice none 0 0, .slice none 0 0]).up ((Below.refl _ _).alloc (Nat.le_refl _) (.cells #[(.int .u8 0), (.int .u64 0), (S []), (.slice none 0 0), (.int .i64 0), (.slice none 0 0), (.slice none 0 0)] 32))
  have hx0 := Bx.fresh (w.alloc (.cells #[.int .u8 0, .int .u64 0, S [], .slice none 0 0, .int .i64 0, .slice none 0 0, .slice none 0 0] 32)) 32 #[(.int .u8 0), (.int .u64 0), (S []), (.slice none 0 0), (.int .i64 0), (.slice none 0 0), (.slice none 0 0)]
  have hb0 : Below w.heap.size w ((w.alloc (.cells #[.int .u8 0, .int .u64 0, S [], .slice none 0 0, .int .i64 0, .slice none 0 0, .slice none 0 0] 32)).alloc (.cells #[(.int .u8 0), (.int .u64 0), (S []), (.slice none 0 0), (.int .i64 0), (.slice none 0 0), (.slice none 0 0)] 32)) := ((Below.refl _ _).alloc (Nat.le_refl _) _).alloc (by simp) _
  have hz0 : w.heap.size + 1 + 1 ≤ ((w.alloc (.cells #[.int .u8 0, .int .u64 0, S [], .slice none 0 0, .int .i64 0, .slice none 0 0, .slice none 0 0] 32)).alloc (.cells #[(.int .u8 0), (.int .u64 0), (S []), (.slice none 0 0), (.int .i64 0), (.slice none 0 0), (.slice none 0 0)] 32)).heap.size := by simp
  rw [World.size_alloc] at hx0
  rw [hk] at HC1
  have hno : P.rdAct (s.drop p) = none := by unfold P.rdAct; rw [HC1.out]; simp only; rfl
  obtain ⟨⟨_, _, _, _, _, _, _⟩, _, _, _, _, _, _, _⟩ := hx0.sevenF
  obtain ⟨⟨_, _, _, _, _, _, _⟩, _, _, _, _, _, _, _⟩ := hr0.sevenF
  go_enter Tryd.func28, Tryd.ntmps28
  go_wp2_with fail
  have fA : Bx ((w.alloc (.cells #[(.int .u8 0), (.int .u64 0), (S []), (.slice none 0 0), (.int .i64 0), (.slice none 0 0), (.slice none 0 0)] 32)).alloc (.cells #[(.int .u8 0), (.int .u64 0), (S []), (.slice none 0 0), (.int .i64 0), (.slice none 0 0), (.slice none 0 0)] 32)) w.heap.size 32 #[(.int .u8 0), (.int .u64 0), (S []), (.slice none 0 0), (.int .i64 0), (.slice none 0 0), (.slice none 0 0)] := (Bx.fresh w 32 #[(.int .u8 0), (.int .u64 0), (S []), (.slice none 0 0), (.int .i64 0), (.slice none 0 0), (.slice none 0 0)]).up ((Below.refl _ _).alloc (Nat.le_refl _) (.cells #[(.int .u8 0), (.int .u64 0), (S []), (.slice none 0 0), (.int .i64 0), (.slice none 0 0), (.slice none 0 0)] 32))
  have fB : Below w.heap.size w ((w.alloc (.cells #[(.int .u8 0), (.int .u64 0), (S []), (.slice none 0 0), (.int .i64 0), (.slice none 0 0), (.slice none 0 0)] 32)).alloc (.cells #[(.int .u8 0), (.int .u64 0), (S []), (.slice none 0 0), (.int .i64 0), (.slice none 0 0), (.slice none 0 0)] 32)) := ((Below.refl _ _).alloc (Nat.le_refl _) _).alloc (by simp) _
  have fO := AcOwn.plain ((w.alloc (.cells #[(.int .u8 0), (.int .u64 0), (S []), (.slice none 0 0), (.int .i64 0), (.slice none 0 0), (.slice none 0 0)] 32)).alloc (.cells #[(.int .u8 0), (.int .u64 0), (S []), (.slice none 0 0), (.int .i64 0), (.slice none 0 0), (.slice none 0 0)] 32)) w.heap.size 0 0 []
  generalize ((w.alloc (.cells #[(.int .u8 0), (.int .u64 0), (S []), (.slice none 0 0), (.int .i64 0), (.slice none 0 0), (.slice none 0 0)] 32)).alloc (.cells #[(.int .u8 0), (.int .u64 0), (S []), (.slice none 0 0), (.int .i64 0), (.slice none 0 0), (.slice none 0 0)] 32)) = w9 at fA fB fO ⊢
  obtain ⟨⟨y0, y1, y2, y3, y4, y5, y6⟩, _, _, _, _, _, _, _⟩ := fA.sevenF
  exact bodyPost_ret (v := .tuple #[.agg #[(.int .u8 0), (.int .u64 0), (S []), (.slice none 0 0), (.int .i64 0), (.slice none 0 0), (.slice none 0 0)], .int .i64 (-1)]) (by simp [results, Tryd.results28, go_sem, y0, y1, y2, y3, y4, y5, y6]) rfl ⟨.inl ⟨hno, ⟨⟨0, 0, [], [], P.noCr⟩, none, 0, none, 0, none, 0⟩, rfl⟩, fB⟩

set_option maxRecDepth 100000 in
set_option maxHeartbeats 8000000 in
theorem take_big (s : List UInt8) (p : Nat) (hp : p < s.length) (hs : s.length ≤ 1000000) (w : World) (k : Nat) (hk : P.at_ s p = k) (hk7 : 7 < k) :
    Calls Tryd.prog 28 #[S s, .int .i64 p] w (TakeADid s p w) := by
  have HS := Lib.hid hs
  have HC1 := Lib.hid (P.rdC_at hp)
  obtain ⟨p1, hp1'⟩ : ∃ p1, p1 = p + 1 := ⟨_, rfl⟩
  have hp1 : (p : Int) + 1 = (p1 : Int) := by omega
  have hp1s : p1 ≤ s.length := by omega
  have hpp1 : p < p1 := by omega
  rw [← hp1'] at HC1
  clear hp1'
  have hr0 := (Bx.fresh w 32 #[.int .u8 0, .int .u64 0, S [], .slice none 0 0, .int .i64 0, .slice none 0 0, .slice none 0 0]).up ((Below.refl _ _).alloc (Nat.le_refl _) (.cells #[(.int .u8 k), (.int .u64 0), (S []), (.slice none 0 0), (.int .i64 0), (.slice none 0 0), (.slice none 0 0)] 32))
  have hx0 := Bx.fresh (w.alloc (.cells #[.int .u8 0, .int .u64 0, S [], .slice none 0 0, .int .i64 0, .slice none 0 0, .slice none 0 0] 32)) 32 #[(.int .u8 k), (.int .u64 0), (S []), (.slice none 0 0), (.int .i64 0), (.slice none 0 0), (.slice none 0 0)]
  have hb0 : Below w.heap.size w ((w.alloc (.cells #[.int .u8 0, .int .u64 0, S [], .slice none 0 0, .int .i64 0, .slice none 0 0, .slice none 0 0] 32)).alloc (.cells #[(.int .u8 k), (.int .u64 0), (S []), (.slice none 0 0), (.int .i64 0), (.slice none 0 0), (.slice none 0 0)] 32)) := ((Below.refl _ _).alloc (Nat.le_refl _) _).alloc (by simp) _
  have hz0 : w.heap.size + 1 + 1 ≤ ((w.alloc (.cells #[.int .u8 0, .int .u64 0, S [], .slice none 0 0, .int .i64 0, .slice none 0 0, .slice none 0 0] 32)).alloc (.cells #[(.int .u8 k), (.int .u64 0), (S []), (.slice none 0 0), (.int .i64 0), (.slice none 0 0), (.slice none 0 0)] 32)).heap.size := by simp
  rw [World.size_alloc] at hx0
  rw [hk] at HC1
  have hno : P.rdAct (s.drop p) = none := by unfold P.rdAct; rw [HC1.out]; simp only; rw [if_neg (by omega), if_neg (by omega), if_neg (by omega), if_neg (by omega), if_neg (by omega), if_neg (by omega)]
  have e1 : ((k : Int) == 1) = false := beq_eq_false_iff_ne.2 (by omega)
  have e2 : ((k : Int) == 2) = false := beq_eq_false_iff_ne.2 (by omega)
  have e5 : ((k : Int) == 5) = false := beq_eq_false_iff_ne.2 (by omega)
  have e6 : ((k : Int) == 6) = false := beq_eq_false_iff_ne.2 (by omega)
  have e7 : ((k : Int) == 7) = false := beq_eq_false_iff_ne.2 (by omega)
  have l1 : decide ((k : Int) < 1) = false := decide_eq_false (by omega)
  have l7 : decide ((7 : Int) < (k : Int)) = true := decide_eq_true (by omega)
  obtain ⟨⟨_, _, _, _, _, _, _⟩, _, _, _, _, _, _, _⟩ := hx0.sevenF
  obtain ⟨⟨_, _, _, _, _, _, _⟩, _, _, _, _, _, _, _⟩ := hr0.sevenF
  go_enter Tryd.func28, Tryd.ntmps28
  go_wp2_with fail
  have fA : Bx ((w.alloc (.cells #[(.int .u8 k), (.int .u64 0), (S []), (.slice none 0 0), (.int .i64 0), (.slice none 0 0), (.slice none 0 0)] 32)).alloc (.cells #[(.int .u8 k), (.int .u64 0), (S []), (.slice none 0 0), (.int .i64 0), (.slice none 0 0), (.slice none 0 0)] 32)) w.heap.size 32 #[(.int .u8 k), (.int .u64 0), (S []), (.slice none 0 0), (.int .i64 0), (.slice none 0 0), (.slice none 0 0)] := (Bx.fresh w 32 #[(.int .u8 k), (.int .u64 0), (S []), (.slice none 0 0), (.int .i64 0), (.slice none 0 0), (.slice none 0 0)]).up ((Below.refl _ _).alloc (Nat.le_refl _) (.cells #[(.int .u8 k), (.int .u64 0), (S []), (.slice none 0 0), (.int .i64 0), (.slice none 0 0), (.slice none 0 0)] 32))
  have fB : Below w.heap.size w ((w.alloc (.cells #[(.int .u8 k), (.int .u64 0), (S []), (.slice none 0 0), (.int .i64 0), (.slice none 0 0), (.slice none 0 0)] 32)).alloc (.cells #[(.int .u8 k), (.int .u64 0), (S []), (.slice none 0 0), (.int .i64 0), (.slice none 0 0), (.slice none 0 0)] 32)) := ((Below.refl _ _).alloc (Nat.le_refl _) _).alloc (by simp) _
  have fO := AcOwn.plain ((w.alloc (.cells #[(.int .u8 k), (.int .u64 0), (S []), (.slice none 0 0), (.int .i64 0), (.slice none 0 0), (.slice none 0 0)] 32)).alloc (.cells #[(.int .u8 k), (.int .u64 0), (S []), (.slice none 0 0), (.int .i64 0), (.slice none 0 0), (.slice none 0 0)] 32)) w.heap.size k 0 []
  generalize ((w.alloc (.cells #[(.int .u8 k), (.int .u64 0), (S []), (.slice none 0 0), (.int .i64 0), (.slice none 0 0), (.slice none 0 0)] 32)).alloc (.cells #[(.int .u8 k), (.int .u64 0), (S []), (.slice none 0 0), (.int .i64 0), (.slice none 0 0), (.slice none 0 0)] 32)) = w9 at fA fB fO ⊢
  obtain ⟨⟨y0, y1, y2, y3, y4, y5, y6⟩, _, _, _, _, _, _, _⟩ := fA.sevenF
  exact bodyPost_ret (v := .tuple #[.agg #[(.int .u8 k), (.int .u64 0), (S []), (.slice none 0 0), (.int .i64 0), (.slice none 0 0), (.slice none 0 0)], .int .i64 (-1)]) (by simp [results, Tryd.results28, go_sem, y0, y1, y2, y3, y4, y5, y6]) rfl ⟨.inl ⟨hno, ⟨⟨k, 0, [], [], P.noCr⟩, none, 0, none, 0, none, 0⟩, rfl⟩, fB⟩

set_option maxRecDepth 100000 in
set_option maxHeartbeats 8000000 in
theorem take_1 (s : List UInt8) (p : Nat) (hp : p < s.length) (hs : s.length ≤ 1000000) (w : World) (hk : P.at_ s p = 1) :
    Calls Tryd.prog 28 #[S s, .int .i64 p] w (TakeADid s p w) := by
  have HS := Lib.hid hs
  have HC1 := Lib.hid (P.rdC_at hp)
  obtain ⟨p1, hp1'⟩ : ∃ p1, p1 = p + 1 := ⟨_, rfl⟩
  have hp1 : (p : Int) + 1 = (p1 : Int) := by omega
  have hp1s : p1 ≤ s.length := by omega
  have hpp1 : p < p1 := by omega
  rw [← hp1'] at HC1
  clear hp1'
  have hr0 := (Bx.fresh w 32 #[.int .u8 0, .int .u64 0, S [], .slice none 0 0, .int .i64 0, .slice none 0 0, .slice none 0 0]).up ((Below.refl _ _).alloc (Nat.le_refl _) (.cells #[(.int .u8 1), (.int .u64 0), (S []), (.slice none 0 0), (.int .i64 0), (.slice none 0 0), (.slice none 0 0)] 32))
  have hx0 := Bx.fresh (w.alloc (.cells #[.int .u8 0, .int .u64 0, S [], .slice none 0 0, .int .i64 0, .slice none 0 0, .slice none 0 0] 32)) 32 #[(.int .u8 1), (.int .u64 0), (S []), (.slice none 0 0), (.int .i64 0), (.slice none 0 0), (.slice none 0 0)]
  have hb0 : Below w.heap.size w ((w.alloc (.cells #[.int .u8 0, .int .u64 0, S [], .slice none 0 0, .int .i64 0, .slice none 0 0, .slice none 0 0] 32)).alloc (.cells #[(.int .u8 1), (.int .u64 0), (S []), (.slice none 0 0), (.int .i64 0), (.slice none 0 0), (.slice none 0 0)] 32)) := ((Below.refl _ _).alloc (Nat.le_refl _) _).alloc (by simp) _
  have hz0 : w.heap.size + 1 + 1 ≤ ((w.alloc (.cells #[.int .u8 0, .int .u64 0, S [], .slice none 0 0, .int .i64 0, .slice none 0 0, .slice none 0 0] 32)).alloc (.cells #[(.int .u8 1), (.int .u64 0), (S []), (.slice none 0 0), (.int .i64 0), (.slice none 0 0), (.slice none 0 0)] 32)).heap.size := by simp
  rw [World.size_alloc] at hx0
  rw [hk] at HC1
  have HT := Lib.hid (fun wx => refReadText_any (s.drop p1) 65536 wx (by rw [List.length_drop]; omega) (by omega) (by omega))
  have hlen : (s.drop p1).length = s.length - p1 := List.length_drop
  have hz := P.tSize_le (s.drop p1) 65536
  have HA := Lib.hid (show P.rdAct (s.drop p) = if P.tOk (s.drop p1) 65536 = true then some ((⟨1, 0, P.tText (s.drop p1) 65536, [], P.noCr⟩ : P.Ac), s.drop (p1 + P.tSize (s.drop p1) 65536)) else none by unfold P.rdAct; rw [HC1.out]; simp only [if_true]; rw [List.drop_drop])
  generalize P.tOk (s.drop p1) 65536 = ok at *
  generalize P.tText (s.drop p1) 65536 = tx at *
  generalize P.tSize (s.drop p1) 65536 = ts at *
  cases ok with
  | false =>
    have hno : P.rdAct (s.drop p) = none := HA.out
    obtain ⟨⟨_, _, _, _, _, _, _⟩, _, _, _, _, _, _, _⟩ := hx0.sevenF
    go_enter Tryd.func28, Tryd.ntmps28
    go_wp2_with (first
      | (go_at_call 44; (with_reducible refine (HT.out _).mono ?_); rintro e w3 ⟨rfl, hd3⟩; have hx3 := hx0.up hd3; have hr3 := hr0.up hd3; have hb3 := Chain.up hb0 hd3; obtain ⟨⟨_, _, _, _, _, _, _⟩, _, _, _, _, _, _, _⟩ := hx3.sevenF; obtain ⟨⟨_, _, _, _, _, _, _⟩, _, _, _, _, _, _, _⟩ := hr3.sevenF))
    have fA := (hr3).set7 (.int .u8 1) (.int .u64 0) (S []) (.slice none 0 0) (.int .i64 0) (.slice none 0 0) (.slice none 0 0)
    have fB := below_set7 (hb3) (Nat.le_refl w.heap.size) (.int .u8 1) (.int .u64 0) (S []) (.slice none 0 0) (.int .i64 0) (.slice none 0 0) (.slice none 0 0)
    generalize (((((((w3.setCell ⟨w.heap.size, 0, none⟩ (.int .u8 1)).setCell ⟨w.heap.size, 1, none⟩ (.int .u64 0)).setCell ⟨w.heap.size, 2, none⟩ (S [])).setCell ⟨w.heap.size, 3, none⟩ (.slice none 0 0)).setCell ⟨w.heap.size, 4, none⟩ (.int .i64 0)).setCell ⟨w.heap.size, 5, none⟩ (.slice none 0 0)).setCell ⟨w.heap.size, 6, none⟩ (.slice none 0 0)) = w9 at fA fB ⊢
    obtain ⟨⟨y0, y1, y2, y3, y4, y5, y6⟩, _, _, _, _, _, _, _⟩ := fA.sevenF
    exact bodyPost_ret (v := .tuple #[.agg #[(.int .u8 1), (.int .u64 0), (S []), (.slice none 0 0), (.int .i64 0), (.slice none 0 0), (.slice none 0 0)], .int .i64 (-1)]) (by simp [results, Tryd.results28, go_sem, y0, y1, y2, y3, y4, y5, y6]) rfl ⟨.inl ⟨hno, ⟨⟨1, 0, [], [], P.noCr⟩, none, 0, none, 0, none, 0⟩, rfl⟩, fB⟩
  | true =>
    have hyes : P.rdAct (s.drop p) = some ((⟨1, 0, tx, [], P.noCr⟩ : P.Ac), s.drop (p1 + ts)) := HA.out
    have hq : p1 + ts ≤ s.length := by omega
    obtain ⟨q, hq'⟩ : ∃ q, q = p1 + ts := ⟨_, rfl⟩
    rw [← hq'] at hyes hq
    have hqi : (p1 : Int) + (ts : Int) = (q : Int) := by omega
    have hpq : p < q := by omega
    clear hq' hz hlen HA
    obtain ⟨⟨_, _, _, _, _, _, _⟩, _, _, _, _, _, _, _⟩ := hx0.sevenF
    go_enter Tryd.func28, Tryd.ntmps28
    go_wp2_with (first
      | (go_at_call 44; (with_reducible refine (HT.out _).mono ?_); rintro e w3 ⟨rfl, hd3⟩; have hx3 := hx0.up hd3; have hr3 := hr0.up hd3; have hb3 := Chain.up hb0 hd3; obtain ⟨⟨_, _, _, _, _, _, _⟩, _, _, _, _, _, _, _⟩ := hx3.sevenF; obtain ⟨⟨_, _, _, _, _, _, _⟩, _, _, _, _, _, _, _⟩ := hr3.sevenF; have hx4 : Bx (w3.setCell ⟨w.heap.size + 1, 2, none⟩ (S tx)) (w.heap.size + 1) 32 #[(.int .u8 1), (.int .u64 0), (S tx), (.slice none 0 0), (.int .i64 0), (.slice none 0 0), (.slice none 0 0)] := hx3.set 2 (S tx); have hr4 := hr3.other (g' := w.heap.size + 1) ?hne 2 (S tx); (case hne => omega); have hb4 : Below w.heap.size w (w3.setCell ⟨w.heap.size + 1, 2, none⟩ (S tx)) := hb3.setCell (p := ⟨w.heap.size + 1, 2, none⟩) (Nat.le_succ _) _; obtain ⟨⟨_, _, _, _, _, _, _⟩, _, _, _, _, _, _, _⟩ := hx4.sevenF; obtain ⟨⟨_, _, _, _, _, _, _⟩, _, _, _, _, _, _, _⟩ := hr4.sevenF))
    have fA := (hr4).set7 (.int .u8 1) (.int .u64 0) (S tx) (.slice none 0 0) (.int .i64 0) (.slice none 0 0) (.slice none 0 0)
    have fB := below_set7 (hb4) (Nat.le_refl w.heap.size) (.int .u8 1) (.int .u64 0) (S tx) (.slice none 0 0) (.int .i64 0) (.slice none 0 0) (.slice none 0 0)
    have fO := ((AcOwn.plain (w3.setCell ⟨w.heap.size + 1, 2, none⟩ (S tx)) (w.heap.size + 1) 1 0 tx)).other7 (g := w.heap.size) (by omega) (.int .u8 1) (.int .u64 0) (S tx) (.slice none 0 0) (.int .i64 0) (.slice none 0 0) (.slice none 0 0)
    generalize ((((((((w3.setCell ⟨w.heap.size + 1, 2, none⟩ (S tx)).setCell ⟨w.heap.size, 0, none⟩ (.int .u8 1)).setCell ⟨w.heap.size, 1, none⟩ (.int .u64 0)).setCell ⟨w.heap.size, 2, none⟩ (S tx)).setCell ⟨w.heap.size, 3, none⟩ (.slice none 0 0)).setCell ⟨w.heap.size, 4, none⟩ (.int .i64 0)).setCell ⟨w.heap.size, 5, none⟩ (.slice none 0 0)).setCell ⟨w.heap.size, 6, none⟩ (.slice none 0 0)) = w9 at fA fB fO ⊢
    obtain ⟨⟨y0, y1, y2, y3, y4, y5, y6⟩, _, _, _, _, _, _, _⟩ := fA.sevenF
    exact bodyPost_ret (v := .tuple #[.agg #[(.int .u8 1), (.int .u64 0), (S tx), (.slice none 0 0), (.int .i64 0), (.slice none 0 0), (.slice none 0 0)], .int .i64 q]) (by simp [results, Tryd.results28, go_sem, y0, y1, y2, y3, y4, y5, y6]) rfl ⟨.inr ⟨⟨⟨1, 0, tx, [], P.noCr⟩, none, 0, none, 0, none, 0⟩, q, hyes, hpq, hq, rfl, fO.low (Nat.le_succ _)⟩, fB⟩

set_option maxRecDepth 100000 in
set_option maxHeartbeats 8000000 in
theorem take_2 (s : List UInt8) (p : Nat) (hp : p < s.length) (hs : s.length ≤ 1000000) (w : World) (hk : P.at_ s p = 2) :
    Calls Tryd.prog 28 #[S s, .int .i64 p] w (TakeADid s p w) := by
  have HS := Lib.hid hs
  have HC1 := Lib.hid (P.rdC_at hp)
  obtain ⟨p1, hp1'⟩ : ∃ p1, p1 = p + 1 := ⟨_, rfl⟩
  have hp1 : (p : Int) + 1 = (p1 : Int) := by omega
  have hp1s : p1 ≤ s.length := by omega
  have hpp1 : p < p1 := by omega
  rw [← hp1'] at HC1
  clear hp1'
  have hr0 := (Bx.fresh w 32 #[.int .u8 0, .int .u64 0, S [], .slice none 0 0, .int .i64 0, .slice none 0 0, .slice none 0 0]).up ((Below.refl _ _).alloc (Nat.le_refl _) (.cells #[(.int .u8 2), (.int .u64 0), (S []), (.slice none 0 0), (.int .i64 0), (.slice none 0 0), (.slice none 0 0)] 32))
  have hx0 := Bx.fresh (w.alloc (.cells #[.int .u8 0, .int .u64 0, S [], .slice none 0 0, .int .i64 0, .slice none 0 0, .slice none 0 0] 32)) 32 #[(.int .u8 2), (.int .u64 0), (S []), (.slice none 0 0), (.int .i64 0), (.slice none 0 0), (.slice none 0 0)]
  have hb0 : Below w.heap.size w ((w.alloc (.cells #[.int .u8 0, .int .u64 0, S [], .slice none 0 0, .int .i64 0, .slice none 0 0, .slice none 0 0] 32)).alloc (.cells #[(.int .u8 2), (.int .u64 0), (S []), (.slice none 0 0), (.int .i64 0), (.slice none 0 0), (.slice none 0 0)] 32)) := ((Below.refl _ _).alloc (Nat.le_refl _) _).alloc (by simp) _
  have hz0 : w.heap.size + 1 + 1 ≤ ((w.alloc (.cells #[.int .u8 0, .int .u64 0, S [], .slice none 0 0, .int .i64 0, .slice none 0 0, .slice none 0 0] 32)).alloc (.cells #[(.int .u8 2), (.int .u64 0), (S []), (.slice none 0 0), (.int .i64 0), (.slice none 0 0), (.slice none 0 0)] 32)).heap.size := by simp
  rw [World.size_alloc] at hx0
  rw [hk] at HC1
  have HV := Lib.hid (fun wx => refReadVar_any (s.drop p1) wx (by rw [List.length_drop]; omega))
  have hlen : (s.drop p1).length = s.length - p1 := List.length_drop
  have HN := Lib.hid (show P.rdN (s.drop p1) = if P.rOk (s.drop p1) = true then some (P.rNum (s.drop p1), s.drop (p1 + P.rSize (s.drop p1))) else none by unfold P.rdN; rw [List.drop_drop])
  have hrr := fun h => (P.row_read (s.drop p1) h).2.1
  generalize P.rOk (s.drop p1) = ok at *
  generalize P.rNum (s.drop p1) = n at *
  generalize P.rSize (s.drop p1) = z at *
  cases ok with
  | false =>
    have hno : P.rdAct (s.drop p) = none := by unfold P.rdAct; rw [HC1.out]; simp only; rw [HN.out]; rfl
    clear hrr
    obtain ⟨⟨_, _, _, _, _, _, _⟩, _, _, _, _, _, _, _⟩ := hx0.sevenF
    go_enter Tryd.func28, Tryd.ntmps28
    go_wp2_with (first
      | (go_at_call 45; (with_reducible refine (HV.out _).mono ?_); rintro e w3 ⟨rfl, hd3⟩; have hx3 := hx0.up hd3; have hr3 := hr0.up hd3; have hb3 := Chain.up hb0 hd3; have hz3 := Nat.le_trans hz0 hd3.size; obtain ⟨⟨_, _, _, _, _, _, _⟩, _, _, _, _, _, _, _⟩ := hx3.sevenF; obtain ⟨⟨_, _, _, _, _, _, _⟩, _, _, _, _, _, _, _⟩ := hr3.sevenF))
    have fA := (hr3).set7 (.int .u8 2) (.int .u64 0) (S []) (.slice none 0 0) (.int .i64 0) (.slice none 0 0) (.slice none 0 0)
    have fB := below_set7 (hb3) (Nat.le_refl w.heap.size) (.int .u8 2) (.int .u64 0) (S []) (.slice none 0 0) (.int .i64 0) (.slice none 0 0) (.slice none 0 0)
    generalize (((((((w3.setCell ⟨w.heap.size, 0, none⟩ (.int .u8 2)).setCell ⟨w.heap.size, 1, none⟩ (.int .u64 0)).setCell ⟨w.heap.size, 2, none⟩ (S [])).setCell ⟨w.heap.size, 3, none⟩ (.slice none 0 0)).setCell ⟨w.heap.size, 4, none⟩ (.int .i64 0)).setCell ⟨w.heap.size, 5, none⟩ (.slice none 0 0)).setCell ⟨w.heap.size, 6, none⟩ (.slice none 0 0)) = w9 at fA fB ⊢
    obtain ⟨⟨y0, y1, y2, y3, y4, y5, y6⟩, _, _, _, _, _, _, _⟩ := fA.sevenF
    exact bodyPost_ret (v := .tuple #[.agg #[(.int .u8 2), (.int .u64 0), (S []), (.slice none 0 0), (.int .i64 0), (.slice none 0 0), (.slice none 0 0)], .int .i64 (-1)]) (by simp [results, Tryd.results28, go_sem, y0, y1, y2, y3, y4, y5, y6]) rfl ⟨.inl ⟨hno, ⟨⟨2, 0, [], [], P.noCr⟩, none, 0, none, 0, none, 0⟩, rfl⟩, fB⟩
  | true =>
    have hz := hrr rfl
    have hq : p1 + z ≤ s.length := by omega
    obtain ⟨q, hq'⟩ : ∃ q, q = p1 + z := ⟨_, rfl⟩
    rw [← hq'] at HN hq
    have hqi : (p1 : Int) + (z : Int) = (q : Int) := by omega
    have hpq : p < q := by omega
    have hN2 : P.rdN (s.drop p1) = some (n, s.drop q) := HN.out
    have HN2 := Lib.hid hN2
    clear hN2
    clear hq' hz hlen hrr
    have hyes : P.rdAct (s.drop p) = some ((⟨2, n, [], [], P.noCr⟩ : P.Ac), s.drop q) := by unfold P.rdAct; rw [HC1.out]; simp only; rw [HN2.out]; rfl
    obtain ⟨⟨_, _, _, _, _, _, _⟩, _, _, _, _, _, _, _⟩ := hx0.sevenF
    go_enter Tryd.func28, Tryd.ntmps28
    go_wp2_with (first
      | (go_at_call 45; (with_reducible refine (HV.out _).mono ?_); rintro e w3 ⟨rfl, hd3⟩; have hx3 := hx0.up hd3; have hr3 := hr0.up hd3; have hb3 := Chain.up hb0 hd3; have hz3 := Nat.le_trans hz0 hd3.size; obtain ⟨⟨_, _, _, _, _, _, _⟩, _, _, _, _, _, _, _⟩ := hx3.sevenF; obtain ⟨⟨_, _, _, _, _, _, _⟩, _, _, _, _, _, _, _⟩ := hr3.sevenF; have hx4 : Bx (w3.setCell ⟨w.heap.size + 1, 1, none⟩ (V64 n)) (w.heap.size + 1) 32 #[(.int .u8 2), (V64 n), (S []), (.slice none 0 0), (.int .i64 0), (.slice none 0 0), (.slice none 0 0)] := hx3.set 1 (V64 n); have hr4 := hr3.other (g' := w.heap.size + 1) ?hne 1 (V64 n); (case hne => omega); have hb4 : Below w.heap.size w (w3.setCell ⟨w.heap.size + 1, 1, none⟩ (V64 n)) := hb3.setCell (p := ⟨w.heap.size + 1, 1, none⟩) (Nat.le_succ _) _; have hz4 : w.heap.size + 1 + 1 ≤ (w3.setCell ⟨w.heap.size + 1, 1, none⟩ (V64 n)).heap.size := (by simpa [World.setCell] using hz3); obtain ⟨⟨_, _, _, _, _, _, _⟩, _, _, _, _, _, _, _⟩ := hx4.sevenF; obtain ⟨⟨_, _, _, _, _, _, _⟩, _, _, _, _, _, _, _⟩ := hr4.sevenF))
    have fA := (hr4).set7 (.int .u8 2) (V64 n) (S []) (.slice none 0 0) (.int .i64 0) (.slice none 0 0) (.slice none 0 0)
    have fB := below_set7 (hb4) (Nat.le_refl w.heap.size) (.int .u8 2) (V64 n) (S []) (.slice none 0 0) (.int .i64 0) (.slice none 0 0) (.slice none 0 0)
    have fO := ((AcOwn.plain (w3.setCell ⟨w.heap.size + 1, 1, none⟩ (V64 n)) (w.heap.size + 1) 2 n [])).other7 (g := w.heap.size) (by omega) (.int .u8 2) (V64 n) (S []) (.slice none 0 0) (.int .i64 0) (.slice none 0 0) (.slice none 0 0)
    generalize ((((((((w3.setCell ⟨w.heap.size + 1, 1, none⟩ (V64 n)).setCell ⟨w.heap.size, 0, none⟩ (.int .u8 2)).setCell ⟨w.heap.size, 1, none⟩ (V64 n)).setCell ⟨w.heap.size, 2, none⟩ (S [])).setCell ⟨w.heap.size, 3, none⟩ (.slice none 0 0)).setCell ⟨w.heap.size, 4, none⟩ (.int .i64 0)).setCell ⟨w.heap.size, 5, none⟩ (.slice none 0 0)).setCell ⟨w.heap.size, 6, none⟩ (.slice none 0 0)) = w9 at fA fB fO ⊢
    obtain ⟨⟨y0, y1, y2, y3, y4, y5, y6⟩, _, _, _, _, _, _, _⟩ := fA.sevenF
    exact bodyPost_ret (v := .tuple #[.agg #[(.int .u8 2), (V64 n), (S []), (.slice none 0 0), (.int .i64 0), (.slice none 0 0), (.slice none 0 0)], .int .i64 q]) (by simp [results, Tryd.results28, go_sem, y0, y1, y2, y3, y4, y5, y6]) rfl ⟨.inr ⟨⟨⟨2, n, [], [], P.noCr⟩, none, 0, none, 0, none, 0⟩, q, hyes, hpq, hq, rfl, fO.low (Nat.le_succ _)⟩, fB⟩

set_option maxRecDepth 100000 in
set_option maxHeartbeats 8000000 in
theorem take_3 (s : List UInt8) (p : Nat) (hp : p < s.length) (hs : s.length ≤ 1000000) (w : World) (hk : P.at_ s p = 3) :
    Calls Tryd.prog 28 #[S s, .int .i64 p] w (TakeADid s p w) := by
  have HS := Lib.hid hs
  have HC1 := Lib.hid (P.rdC_at hp)
  obtain ⟨p1, hp1'⟩ : ∃ p1, p1 = p + 1 := ⟨_, rfl⟩
  have hp1 : (p : Int) + 1 = (p1 : Int) := by omega
  have hp1s : p1 ≤ s.length := by omega
  have hpp1 : p < p1 := by omega
  rw [← hp1'] at HC1
  clear hp1'
  have hr0 := (Bx.fresh w 32 #[.int .u8 0, .int .u64 0, S [], .slice none 0 0, .int .i64 0, .slice none 0 0, .slice none 0 0]).up ((Below.refl _ _).alloc (Nat.le_refl _) (.cells #[(.int .u8 3), (.int .u64 0), (S []), (.slice none 0 0), (.int .i64 0), (.slice none 0 0), (.slice none 0 0)] 32))
  have hx0 := Bx.fresh (w.alloc (.cells #[.int .u8 0, .int .u64 0, S [], .slice none 0 0, .int .i64 0, .slice none 0 0, .slice none 0 0] 32)) 32 #[(.int .u8 3), (.int .u64 0), (S []), (.slice none 0 0), (.int .i64 0), (.slice none 0 0), (.slice none 0 0)]
  have hb0 : Below w.heap.size w ((w.alloc (.cells #[.int .u8 0, .int .u64 0, S [], .slice none 0 0, .int .i64 0, .slice none 0 0, .slice none 0 0] 32)).alloc (.cells #[(.int .u8 3), (.int .u64 0), (S []), (.slice none 0 0), (.int .i64 0), (.slice none 0 0), (.slice none 0 0)] 32)) := ((Below.refl _ _).alloc (Nat.le_refl _) _).alloc (by simp) _
  have hz0 : w.heap.size + 1 + 1 ≤ ((w.alloc (.cells #[.int .u8 0, .int .u64 0, S [], .slice none 0 0, .int .i64 0, .slice none 0 0, .slice none 0 0] 32)).alloc (.cells #[(.int .u8 3), (.int .u64 0), (S []), (.slice none 0 0), (.int .i64 0), (.slice none 0 0), (.slice none 0 0)] 32)).heap.size := by simp
  rw [World.size_alloc] at hx0
  rw [hk] at HC1
  have hyes : P.rdAct (s.drop p) = some ((⟨3, 0, [], [], P.noCr⟩ : P.Ac), s.drop p1) := by unfold P.rdAct; rw [HC1.out]; rfl
  obtain ⟨⟨_, _, _, _, _, _, _⟩, _, _, _, _, _, _, _⟩ := hx0.sevenF
  obtain ⟨⟨_, _, _, _, _, _, _⟩, _, _, _, _, _, _, _⟩ := hr0.sevenF
  go_enter Tryd.func28, Tryd.ntmps28
  go_wp2_with fail
  have fA : Bx ((w.alloc (.cells #[(.int .u8 3), (.int .u64 0), (S []), (.slice none 0 0), (.int .i64 0), (.slice none 0 0), (.slice none 0 0)] 32)).alloc (.cells #[(.int .u8 3), (.int .u64 0), (S []), (.slice none 0 0), (.int .i64 0), (.slice none 0 0), (.slice none 0 0)] 32)) w.heap.size 32 #[(.int .u8 3), (.int .u64 0), (S []), (.slice none 0 0), (.int .i64 0), (.slice none 0 0), (.slice none 0 0)] := (Bx.fresh w 32 #[(.int .u8 3), (.int .u64 0), (S []), (.slice none 0 0), (.int .i64 0), (.slice none 0 0), (.slice none 0 0)]).up ((Below.refl _ _).alloc (Nat.le_refl _) (.cells #[(.int .u8 3), (.int .u64 0), (S []), (.slice none 0 0), (.int .i64 0), (.slice none 0 0), (.slice none 0 0)] 32))
  have fB : Below w.heap.size w ((w.alloc (.cells #[(.int .u8 3), (.int .u64 0), (S []), (.slice none 0 0), (.int .i64 0), (.slice none 0 0), (.slice none 0 0)] 32)).alloc (.cells #[(.int .u8 3), (.int .u64 0), (S []), (.slice none 0 0), (.int .i64 0), (.slice none 0 0), (.slice none 0 0)] 32)) := ((Below.refl _ _).alloc (Nat.le_refl _) _).alloc (by simp) _
  have fO := AcOwn.plain ((w.alloc (.cells #[(.int .u8 3), (.int .u64 0), (S []), (.slice none 0 0), (.int .i64 0), (.slice none 0 0), (.slice none 0 0)] 32)).alloc (.cells #[(.int .u8 3), (.int .u64 0), (S []), (.slice none 0 0), (.int .i64 0), (.slice none 0 0), (.slice none 0 0)] 32)) w.heap.size 3 0 []
  generalize ((w.alloc (.cells #[(.int .u8 3), (.int .u64 0), (S []), (.slice none 0 0), (.int .i64 0), (.slice none 0 0), (.slice none 0 0)] 32)).alloc (.cells #[(.int .u8 3), (.int .u64 0), (S []), (.slice none 0 0), (.int .i64 0), (.slice none 0 0), (.slice none 0 0)] 32)) = w9 at fA fB fO ⊢
  obtain ⟨⟨y0, y1, y2, y3, y4, y5, y6⟩, _, _, _, _, _, _, _⟩ := fA.sevenF
  exact bodyPost_ret (v := .tuple #[.agg #[(.int .u8 3), (.int .u64 0), (S []), (.slice none 0 0), (.int .i64 0), (.slice none 0 0), (.slice none 0 0)], .int .i64 p1]) (by simp [results, Tryd.results28, go_sem, y0, y1, y2, y3, y4, y5, y6]) rfl ⟨.inr ⟨⟨⟨3, 0, [], [], P.noCr⟩, none, 0, none, 0, none, 0⟩, p1, hyes, hpp1, hp1s, rfl, fO⟩, fB⟩

set_option maxRecDepth 100000 in
set_option maxHeartbeats 8000000 in
theorem take_4 (s : List UInt8) (p : Nat) (hp : p < s.length) (hs : s.length ≤ 1000000) (w : World) (hk : P.at_ s p = 4) :
    Calls Tryd.prog 28 #[S s, .int .i64 p] w (TakeADid s p w) := by
  have HS := Lib.hid hs
  have HC1 := Lib.hid (P.rdC_at hp)
  obtain ⟨p1, hp1'⟩ : ∃ p1, p1 = p + 1 := ⟨_, rfl⟩
  have hp1 : (p : Int) + 1 = (p1 : Int) := by omega
  have hp1s : p1 ≤ s.length := by omega
  have hpp1 : p < p1 := by omega
  rw [← hp1'] at HC1
  clear hp1'
  have hr0 := (Bx.fresh w 32 #[.int .u8 0, .int .u64 0, S [], .slice none 0 0, .int .i64 0, .slice none 0 0, .slice none 0 0]).up ((Below.refl _ _).alloc (Nat.le_refl _) (.cells #[(.int .u8 4), (.int .u64 0), (S []), (.slice none 0 0), (.int .i64 0), (.slice none 0 0), (.slice none 0 0)] 32))
  have hx0 := Bx.fresh (w.alloc (.cells #[.int .u8 0, .int .u64 0, S [], .slice none 0 0, .int .i64 0, .slice none 0 0, .slice none 0 0] 32)) 32 #[(.int .u8 4), (.int .u64 0), (S []), (.slice none 0 0), (.int .i64 0), (.slice none 0 0), (.slice none 0 0)]
  have hb0 : Below w.heap.size w ((w.alloc (.cells #[.int .u8 0, .int .u64 0, S [], .slice none 0 0, .int .i64 0, .slice none 0 0, .slice none 0 0] 32)).alloc (.cells #[(.int .u8 4), (.int .u64 0), (S []), (.slice none 0 0), (.int .i64 0), (.slice none 0 0), (.slice none 0 0)] 32)) := ((Below.refl _ _).alloc (Nat.le_refl _) _).alloc (by simp) _
  have hz0 : w.heap.size + 1 + 1 ≤ ((w.alloc (.cells #[.int .u8 0, .int .u64 0, S [], .slice none 0 0, .int .i64 0, .slice none 0 0, .slice none 0 0] 32)).alloc (.cells #[(.int .u8 4), (.int .u64 0), (S []), (.slice none 0 0), (.int .i64 0), (.slice none 0 0), (.slice none 0 0)] 32)).heap.size := by simp
  rw [World.size_alloc] at hx0
  rw [hk] at HC1
  have hyes : P.rdAct (s.drop p) = some ((⟨4, 0, [], [], P.noCr⟩ : P.Ac), s.drop p1) := by unfold P.rdAct; rw [HC1.out]; rfl
  obtain ⟨⟨_, _, _, _, _, _, _⟩, _, _, _, _, _, _, _⟩ := hx0.sevenF
  obtain ⟨⟨_, _, _, _, _, _, _⟩, _, _, _, _, _, _, _⟩ := hr0.sevenF
  go_enter Tryd.func28, Tryd.ntmps28
  go_wp2_with fail
  have fA : Bx ((w.alloc (.cells #[(.int .u8 4), (.int .u64 0), (S []), (.slice none 0 0), (.int .i64 0), (.slice none 0 0), (.slice none 0 0)] 32)).alloc (.cells #[(.int .u8 4), (.int .u64 0), (S []), (.slice none 0 0), (.int .i64 0), (.slice none 0 0), (.slice none 0 0)] 32)) w.heap.size 32 #[(.int .u8 4), (.int .u64 0), (S []), (.slice none 0 0), (.int .i64 0), (.slice none 0 0), (.slice none 0 0)] := (Bx.fresh w 32 #[(.int .u8 4), (.int .u64 0), (S []), (.slice none 0 0), (.int .i64 0), (.slice none 0 0), (.slice none 0 0)]).up ((Below.refl _ _).alloc (Nat.le_refl _) (.cells #[(.int .u8 4), (.int .u64 0), (S []), (.slice none 0 0), (.int .i64 0), (.slice none 0 0), (.slice none 0 0)] 32))
  have fB : Below w.heap.size w ((w.alloc (.cells #[(.int .u8 4), (.int .u64 0), (S []), (.slice none 0 0), (.int .i64 0), (.slice none 0 0), (.slice none 0 0)] 32)).alloc (.cells #[(.int .u8 4), (.int .u64 0), (S []), (.slice none 0 0), (.int .i64 0), (.slice none 0 0), (.slice none 0 0)] 32)) := ((Below.refl _ _).alloc (Nat.le_refl _) _).alloc (by simp) _
  have fO := AcOwn.plain ((w.alloc (.cells #[(.int .u8 4), (.int .u64 0), (S []), (.slice none 0 0), (.int .i64 0), (.slice none 0 0), (.slice none 0 0)] 32)).alloc (.cells #[(.int .u8 4), (.int .u64 0), (S []), (.slice none 0 0), (.int .i64 0), (.slice none 0 0), (.slice none 0 0)] 32)) w.heap.size 4 0 []
  generalize ((w.alloc (.cells #[(.int .u8 4), (.int .u64 0), (S []), (.slice none 0 0), (.int .i64 0), (.slice none 0 0), (.slice none 0 0)] 32)).alloc (.cells #[(.int .u8 4), (.int .u64 0), (S []), (.slice none 0 0), (.int .i64 0), (.slice none 0 0), (.slice none 0 0)] 32)) = w9 at fA fB fO ⊢
  obtain ⟨⟨y0, y1, y2, y3, y4, y5, y6⟩, _, _, _, _, _, _, _⟩ := fA.sevenF
  exact bodyPost_ret (v := .tuple #[.agg #[(.int .u8 4), (.int .u64 0), (S []), (.slice none 0 0), (.int .i64 0), (.slice none 0 0), (.slice none 0 0)], .int .i64 p1]) (by simp [results, Tryd.results28, go_sem, y0, y1, y2, y3, y4, y5, y6]) rfl ⟨.inr ⟨⟨⟨4, 0, [], [], P.noCr⟩, none, 0, none, 0, none, 0⟩, p1, hyes, hpp1, hp1s, rfl, fO⟩, fB⟩

set_option maxRecDepth 100000 in
set_option maxHeartbeats 8000000 in
theorem take_5 (s : List UInt8) (p : Nat) (hp : p < s.length) (hs : s.length ≤ 1000000) (w : World) (hk : P.at_ s p = 5) :
    Calls Tryd.prog 28 #[S s, .int .i64 p] w (TakeADid s p w) := by
  have HS := Lib.hid hs
  have HC1 := Lib.hid (P.rdC_at hp)
  obtain ⟨p1, hp1'⟩ : ∃ p1, p1 = p + 1 := ⟨_, rfl⟩
  have hp1 : (p : Int) + 1 = (p1 : Int) := by omega
  have hp1s : p1 ≤ s.length := by omega
  have hpp1 : p < p1 := by omega
  rw [← hp1'] at HC1
  clear hp1'
  have hr0 := (Bx.fresh w 32 #[.int .u8 0, .int .u64 0, S [], .slice none 0 0, .int .i64 0, .slice none 0 0, .slice none 0 0]).up ((Below.refl _ _).alloc (Nat.le_refl _) (.cells #[(.int .u8 5), (.int .u64 0), (S []), (.slice none 0 0), (.int .i64 0), (.slice none 0 0), (.slice none 0 0)] 32))
  have hx0 := Bx.fresh (w.alloc (.cells #[.int .u8 0, .int .u64 0, S [], .slice none 0 0, .int .i64 0, .slice none 0 0, .slice none 0 0] 32)) 32 #[(.int .u8 5), (.int .u64 0), (S []), (.slice none 0 0), (.int .i64 0), (.slice none 0 0), (.slice none 0 0)]
  have hb0 : Below w.heap.size w ((w.alloc (.cells #[.int .u8 0, .int .u64 0, S [], .slice none 0 0, .int .i64 0, .slice none 0 0, .slice none 0 0] 32)).alloc (.cells #[(.int .u8 5), (.int .u64 0), (S []), (.slice none 0 0), (.int .i64 0), (.slice none 0 0), (.slice none 0 0)] 32)) := ((Below.refl _ _).alloc (Nat.le_refl _) _).alloc (by simp) _
  have hz0 : w.heap.size + 1 + 1 ≤ ((w.alloc (.cells #[.int .u8 0, .int .u64 0, S [], .slice none 0 0, .int .i64 0, .slice none 0 0, .slice none 0 0] 32)).alloc (.cells #[(.int .u8 5), (.int .u64 0), (S []), (.slice none 0 0), (.int .i64 0), (.slice none 0 0), (.slice none 0 0)] 32)).heap.size := by simp
  rw [World.size_alloc] at hx0
  rw [hk] at HC1
  by_cases hc : p1 < s.length
  case neg =>
    have hno : P.rdAct (s.drop p) = none := by rw [P.rdAct_5 HC1.out, P.rdC_end (by omega)]
    have hge : decide (s.length ≤ p1) = true := decide_eq_true (by omega)
    obtain ⟨⟨_, _, _, _, _, _, _⟩, _, _, _, _, _, _, _⟩ := hx0.sevenF
    obtain ⟨⟨_, _, _, _, _, _, _⟩, _, _, _, _, _, _, _⟩ := hr0.sevenF
    go_enter Tryd.func28, Tryd.ntmps28
    go_wp2_with fail
    have fA : Bx ((w.alloc (.cells #[(.int .u8 5), (.int .u64 0), (S []), (.slice none 0 0), (.int .i64 0), (.slice none 0 0), (.slice none 0 0)] 32)).alloc (.cells #[(.int .u8 5), (.int .u64 0), (S []), (.slice none 0 0), (.int .i64 0), (.slice none 0 0), (.slice none 0 0)] 32)) w.heap.size 32 #[(.int .u8 5), (.int .u64 0), (S []), (.slice none 0 0), (.int .i64 0), (.slice none 0 0), (.slice none 0 0)] := (Bx.fresh w 32 #[(.int .u8 5), (.int .u64 0), (S []), (.slice none 0 0), (.int .i64 0), (.slice none 0 0), (.slice none 0 0)]).up ((Below.refl _ _).alloc (Nat.le_refl _) (.cells #[(.int .u8 5), (.int .u64 0), (S []), (.slice none 0 0), (.int .i64 0), (.slice none 0 0), (.slice none 0 0)] 32))
    have fB : Below w.heap.size w ((w.alloc (.cells #[(.int .u8 5), (.int .u64 0), (S []), (.slice none 0 0), (.int .i64 0), (.slice none 0 0), (.slice none 0 0)] 32)).alloc (.cells #[(.int .u8 5), (.int .u64 0), (S []), (.slice none 0 0), (.int .i64 0), (.slice none 0 0), (.slice none 0 0)] 32)) := ((Below.refl _ _).alloc (Nat.le_refl _) _).alloc (by simp) _
    have fO := AcOwn.plain ((w.alloc (.cells #[(.int .u8 5), (.int .u64 0), (S []), (.slice none 0 0), (.int .i64 0), (.slice none 0 0), (.slice none 0 0)] 32)).alloc (.cells #[(.int .u8 5), (.int .u64 0), (S []), (.slice none 0 0), (.int .i64 0), (.slice none 0 0), (.slice none 0 0)] 32)) w.heap.size 5 0 []
    generalize ((w.alloc (.cells #[(.int .u8 5), (.int .u64 0), (S []), (.slice none 0 0), (.int .i64 0), (.slice none 0 0), (.slice none 0 0)] 32)).alloc (.cells #[(.int .u8 5), (.int .u64 0), (S []), (.slice none 0 0), (.int .i64 0), (.slice none 0 0), (.slice none 0 0)] 32)) = w9 at fA fB fO ⊢
    obtain ⟨⟨y0, y1, y2, y3, y4, y5, y6⟩, _, _, _, _, _, _, _⟩ := fA.sevenF
    exact bodyPost_ret (v := .tuple #[.agg #[(.int .u8 5), (.int .u64 0), (S []), (.slice none 0 0), (.int .i64 0), (.slice none 0 0), (.slice none 0 0)], .int .i64 (-1)]) (by simp [results, Tryd.results28, go_sem, y0, y1, y2, y3, y4, y5, y6]) rfl ⟨.inl ⟨hno, ⟨⟨5, 0, [], [], P.noCr⟩, none, 0, none, 0, none, 0⟩, rfl⟩, fB⟩
  have hge : decide (s.length ≤ p1) = false := decide_eq_false (by omega)
  have HC2 := Lib.hid (P.rdC_at hc)
  have hc255 := P.at_lt s p1
  obtain ⟨p2, hp2'⟩ : ∃ p2, p2 = p1 + 1 := ⟨_, rfl⟩
  have hp2 : (p1 : Int) + 1 = (p2 : Int) := by omega
  have hp2s : p2 ≤ s.length := by omega
  have hpp2 : p < p2 := by omega
  rw [← hp2'] at HC2
  clear hp2'
  generalize hcn : P.at_ s p1 = c at *
  have hlen : (s.drop p2).length = s.length - p2 := List.length_drop
  obtain ⟨p3, hp3'⟩ : ∃ p3, p3 = p2 + c := ⟨_, rfl⟩
  have hp3 : (p2 : Int) + (c : Int) = (p3 : Int) := by omega
  by_cases hd : p3 ≤ s.length
  case neg =>
    have hno : P.rdAct (s.drop p) = none := by rw [P.rdAct_5 HC1.out, HC2.out]; simp only; rw [P.rdP_no (by omega)]
    have hgt : decide (s.length < p3) = true := decide_eq_true (by omega)
    clear hp3'
    obtain ⟨⟨_, _, _, _, _, _, _⟩, _, _, _, _, _, _, _⟩ := hx0.sevenF
    obtain ⟨⟨_, _, _, _, _, _, _⟩, _, _, _, _, _, _, _⟩ := hr0.sevenF
    go_enter Tryd.func28, Tryd.ntmps28
    go_wp2_with fail
    have fA : Bx ((w.alloc (.cells #[(.int .u8 5), (.int .u64 0), (S []), (.slice none 0 0), (.int .i64 0), (.slice none 0 0), (.slice none 0 0)] 32)).alloc (.cells #[(.int .u8 5), (.int .u64 0), (S []), (.slice none 0 0), (.int .i64 0), (.slice none 0 0), (.slice none 0 0)] 32)) w.heap.size 32 #[(.int .u8 5), (.int .u64 0), (S []), (.slice none 0 0), (.int .i64 0), (.slice none 0 0), (.slice none 0 0)] := (Bx.fresh w 32 #[(.int .u8 5), (.int .u64 0), (S []), (.slice none 0 0), (.int .i64 0), (.slice none 0 0), (.slice none 0 0)]).up ((Below.refl _ _).alloc (Nat.le_refl _) (.cells #[(.int .u8 5), (.int .u64 0), (S []), (.slice none 0 0), (.int .i64 0), (.slice none 0 0), (.slice none 0 0)] 32))
    have fB : Below w.heap.size w ((w.alloc (.cells #[(.int .u8 5), (.int .u64 0), (S []), (.slice none 0 0), (.int .i64 0), (.slice none 0 0), (.slice none 0 0)] 32)).alloc (.cells #[(.int .u8 5), (.int .u64 0), (S []), (.slice none 0 0), (.int .i64 0), (.slice none 0 0), (.slice none 0 0)] 32)) := ((Below.refl _ _).alloc (Nat.le_refl _) _).alloc (by simp) _
    have fO := AcOwn.plain ((w.alloc (.cells #[(.int .u8 5), (.int .u64 0), (S []), (.slice none 0 0), (.int .i64 0), (.slice none 0 0), (.slice none 0 0)] 32)).alloc (.cells #[(.int .u8 5), (.int .u64 0), (S []), (.slice none 0 0), (.int .i64 0), (.slice none 0 0), (.slice none 0 0)] 32)) w.heap.size 5 0 []
    generalize ((w.alloc (.cells #[(.int .u8 5), (.int .u64 0), (S []), (.slice none 0 0), (.int .i64 0), (.slice none 0 0), (.slice none 0 0)] 32)).alloc (.cells #[(.int .u8 5), (.int .u64 0), (S []), (.slice none 0 0), (.int .i64 0), (.slice none 0 0), (.slice none 0 0)] 32)) = w9 at fA fB fO ⊢
    obtain ⟨⟨y0, y1, y2, y3, y4, y5, y6⟩, _, _, _, _, _, _, _⟩ := fA.sevenF
    exact bodyPost_ret (v := .tuple #[.agg #[(.int .u8 5), (.int .u64 0), (S []), (.slice none 0 0), (.int .i64 0), (.slice none 0 0), (.slice none 0 0)], .int .i64 (-1)]) (by simp [results, Tryd.results28, go_sem, y0, y1, y2, y3, y4, y5, y6]) rfl ⟨.inl ⟨hno, ⟨⟨5, 0, [], [], P.noCr⟩, none, 0, none, 0, none, 0⟩, rfl⟩, fB⟩
  have hgt : decide (s.length < p3) = false := decide_eq_false (by omega)
  have hp23 : p2 ≤ p3 := by omega
  have hcut : (ByteArray.mk s.toArray).extract p2 p3 = ⟨((s.drop p2).take c).toArray⟩ := by rw [str_cut, hp3', Nat.add_sub_cancel_left]
  have hyes : P.rdAct (s.drop p) = some ((⟨5, 0, [], (s.drop p2).take c, P.noCr⟩ : P.Ac), s.drop p3) := by rw [P.rdAct_5 HC1.out, HC2.out]; simp only; rw [P.rdP_yes (by omega), List.drop_drop, ← hp3']
  have hdl : ((s.drop p2).take c).length = c := by rw [List.length_take]; omega
  have hpq : p < p3 := by omega
  clear hp3'
  generalize (s.drop p2).take c = D at *
  obtain ⟨⟨_, _, _, _, _, _, _⟩, _, _, _, _, _, _, _⟩ := hx0.sevenF
  obtain ⟨⟨_, _, _, _, _, _, _⟩, _, _, _, _, _, _, _⟩ := hr0.sevenF
  have Hdl := Lib.hid hdl
  clear hdl
  go_enter Tryd.func28, Tryd.ntmps28
  go_wp2_with (refine wpList_conv_ownG D (by rfl) 5 rfl Tryd.underlying9 Tryd.underlying30 Tryd.underlying5 ?hl ?_; (case hl => have := Hdl.out; omega); intro v6 w6 hown6 hb6; have hx6 := hx0.up hb6; have hr6 := hr0.up hb6; have hbb6 := Chain.up hb0 hb6; have hz6 := Nat.le_trans hz0 hb6.size; obtain ⟨⟨_, _, _, _, _, _, _⟩, _, _, _, _, _, _, _⟩ := hx6.sevenF; obtain ⟨⟨_, _, _, _, _, _, _⟩, _, _, _, _, _, _, _⟩ := hr6.sevenF; obtain ⟨da, dc, hv6, hda, hdl6⟩ := hown6.at; subst hv6)
  have hx7 : Bx (w6.setCell ⟨w.heap.size + 1, 3, none⟩ (.slice (some ⟨da, 0, none⟩) D.length dc)) (w.heap.size + 1) 32 #[(.int .u8 5), (.int .u64 0), (S []), (.slice (some ⟨da, 0, none⟩) D.length dc), (.int .i64 0), (.slice none 0 0), (.slice none 0 0)] := hx6.set 3 (.slice (some ⟨da, 0, none⟩) D.length dc)
  have hr7 := hr6.other (g' := w.heap.size + 1) (by omega) 3 (.slice (some ⟨da, 0, none⟩) D.length dc)
  have hb7 : Below w.heap.size w (w6.setCell ⟨w.heap.size + 1, 3, none⟩ (.slice (some ⟨da, 0, none⟩) D.length dc)) := hbb6.setCell (p := ⟨w.heap.size + 1, 3, none⟩) (Nat.le_succ _) _
  have oD : Dr w6 (w.heap.size + 1 + 1) (.slice (some ⟨da, 0, none⟩) D.length dc) D := Dr.low (.inr hown6) hz0
  have hown : AcOwn (w6.setCell ⟨w.heap.size + 1, 3, none⟩ (.slice (some ⟨da, 0, none⟩) D.length dc)) (w.heap.size + 1 + 1) ⟨⟨5, 0, [], D, P.noCr⟩, some ⟨da, 0, none⟩, dc, none, 0, none, 0⟩ := ⟨oD.other (Nat.lt_succ_self _) 3 _, ownR_nil _ _, ownR_nil _ _⟩
  have ho7 := hown
  generalize (w6.setCell ⟨w.heap.size + 1, 3, none⟩ (.slice (some ⟨da, 0, none⟩) D.length dc)) = w7 at hx7 hr7 hb7 ho7 ⊢
  clear hown
  obtain ⟨⟨x0, x1, x2, x3, x4, x5, x6⟩, _, _, _, _, _, _, _⟩ := hx7.sevenF
  obtain ⟨⟨z0, z1, z2, z3, z4, z5, z6⟩, zf0, zf1, zf2, zf3, zf4, zf5, zf6⟩ := hr7.sevenF
  have hq3 : (p2 : Int) + (D.length : Int) = (p3 : Int) := by have := Hdl.out; rw [this]; exact hp3
  refine wp_region_held_drew (S := fun wx => But w.heap.size w7 wx) (by kernel_rfl) (But.refl _ _).drew (fun hHeld => ?_)
  refine wpAnyH_take (i := 0) (v := ?_) rfl (by kernel_rfl) (by kernel_rfl) (by kernel_rfl) (fun _ _ _ h => h) (Or.inl ⟨by rfl, ?_⟩) hHeld ?_
  rotate_left
  · intro wq hSw; have hx8 := hx7.but hSw (Nat.succ_ne_self _); obtain ⟨⟨q0, q1, q2, q3, q4, q5, q6⟩, _, _, _, _, _, _, _⟩ := hx8.sevenF; go_simp; (try with_reducible rfl)
  simp only [Act.put, List.getElem_toArray, List.getElem_cons_succ, List.getElem_cons_zero, List.setIfInBounds_toArray, List.set_cons_zero, List.set_cons_succ]
  refine wpAnyH_take (i := 1) (v := ?_) rfl (by kernel_rfl) (by kernel_rfl) (by kernel_rfl) (fun _ _ _ h => h) (Or.inl ⟨by rfl, ?_⟩) hHeld ?_
  rotate_left
  · intro wq hSw; go_simp; (try with_reducible rfl)
  simp only [Act.put, List.getElem_toArray, List.getElem_cons_succ, List.getElem_cons_zero, List.setIfInBounds_toArray, List.set_cons_zero, List.set_cons_succ]
  refine wpAnyH_take (i := 2) (v := ?_) rfl (by kernel_rfl) (by kernel_rfl) (by kernel_rfl) (fun _ _ _ h => h) (Or.inl ⟨by rfl, ?_⟩) hHeld ?_
  rotate_left
  · intro wq hSw; go_simp; (try with_reducible rfl)
  simp only [Act.put, List.getElem_toArray, List.getElem_cons_succ, List.getElem_cons_zero, List.setIfInBounds_toArray, List.set_cons_zero, List.set_cons_succ]
  refine wpAnyH_take (i := 3) (v := ?_) rfl (by kernel_rfl) (by kernel_rfl) (by kernel_rfl) (fun _ _ _ h => h) (Or.inl ⟨by rfl, ?_⟩) hHeld ?_
  rotate_left
  · intro wq hSw; go_simp; (try with_reducible rfl)
  simp only [Act.put, List.getElem_toArray, List.getElem_cons_succ, List.getElem_cons_zero, List.setIfInBounds_toArray, List.set_cons_zero, List.set_cons_succ]
  refine wpAnyH_take (i := 4) (v := ?_) rfl (by kernel_rfl) (by kernel_rfl) (by kernel_rfl) (fun _ _ _ h => h) (Or.inl ⟨by rfl, ?_⟩) hHeld ?_
  rotate_left
  · intro wq hSw; have hx8 := hx7.but hSw (Nat.succ_ne_self _); obtain ⟨⟨q0, q1, q2, q3, q4, q5, q6⟩, _, _, _, _, _, _, _⟩ := hx8.sevenF; go_simp; (try with_reducible rfl)
  simp only [Act.put, List.getElem_toArray, List.getElem_cons_succ, List.getElem_cons_zero, List.setIfInBounds_toArray, List.set_cons_zero, List.set_cons_succ]
  refine wpAnyH_take (i := 5) (v := ?_) rfl (by kernel_rfl) (by kernel_rfl) (by kernel_rfl) (fun _ _ _ h => h) (Or.inl ⟨by rfl, ?_⟩) hHeld ?_
  rotate_left
  · intro wq hSw; go_simp; (try with_reducible rfl)
  simp only [Act.put, List.getElem_toArray, List.getElem_cons_succ, List.getElem_cons_zero, List.setIfInBounds_toArray, List.set_cons_zero, List.set_cons_succ]
  refine wpAnyH_take (i := 6) (v := ?_) rfl (by kernel_rfl) (by kernel_rfl) (by kernel_rfl) (fun _ _ _ h => h) (Or.inl ⟨by rfl, ?_⟩) hHeld ?_
  rotate_left
  · intro wq hSw; go_simp; (try with_reducible rfl)
  simp only [Act.put, List.getElem_toArray, List.getElem_cons_succ, List.getElem_cons_zero, List.setIfInBounds_toArray, List.set_cons_zero, List.set_cons_succ]
  have fA := (hr7.set7 (.int .u8 5) (.int .u64 0) (S []) (.slice (some ⟨da, 0, none⟩) D.length dc) (.int .i64 0) (.slice none 0 0) (.slice none 0 0)).drew
  have fB := (below_set7 hb7 (Nat.le_refl w.heap.size) (.int .u8 5) (.int .u64 0) (S []) (.slice (some ⟨da, 0, none⟩) D.length dc) (.int .i64 0) (.slice none 0 0) (.slice none 0 0)).drew
  have fO := AcOwn.up (ho7.other7 (g := w.heap.size) (by omega) (.int .u8 5) (.int .u64 0) (S []) (.slice (some ⟨da, 0, none⟩) D.length dc) (.int .i64 0) (.slice none 0 0) (.slice none 0 0)) (Below.refl _ _).drew
  have fH := ((((((((But.refl w.heap.size w7).set 0 (.int .u8 5)).set 1 (.int .u64 0)).set 2 (S [])).set 3 (.slice (some ⟨da, 0, none⟩) D.length dc)).set 4 (.int .i64 0)).set 5 (.slice none 0 0)).set 6 (.slice none 0 0)).drew
  refine wpAnyH_one (i := 7) (by kernel_rfl) rfl (fun K hK => ?_)
  simp only [List.getElem_toArray, List.getElem_cons_succ, List.getElem_cons_zero]
  go_simp
  refine hK.out _ _ fH ?_
  clear hK K
  refine wpAnyH_take (i := 8) (v := ?_) rfl (by kernel_rfl) (by kernel_rfl) (by kernel_rfl) (fun _ _ _ h => h) (Or.inl ⟨by rfl, ?_⟩) fH ?_
  rotate_left
  · intro wq hSw; go_simp; (try with_reducible rfl)
  simp only [Act.put, List.getElem_toArray, List.getElem_cons_succ, List.getElem_cons_zero, List.setIfInBounds_toArray, List.set_cons_zero, List.set_cons_succ]
  refine wpAnyH_done (by kernel_rfl) ?_ _
  generalize ((((((((w7.setCell ⟨w.heap.size, 0, none⟩ (.int .u8 5)).setCell ⟨w.heap.size, 1, none⟩ (.int .u64 0)).setCell ⟨w.heap.size, 2, none⟩ (S [])).setCell ⟨w.heap.size, 3, none⟩ (.slice (some ⟨da, 0, none⟩) D.length dc)).setCell ⟨w.heap.size, 4, none⟩ (.int .i64 0)).setCell ⟨w.heap.size, 5, none⟩ (.slice none 0 0)).setCell ⟨w.heap.size, 6, none⟩ (.slice none 0 0))).drew = w9 at fA fB fO ⊢
  obtain ⟨⟨y0, y1, y2, y3, y4, y5, y6⟩, _, _, _, _, _, _, _⟩ := fA.sevenF
  have Hwr := Lib.hid (wrap_sum p2 D.length p3 hq3 (Nat.le_trans hd HS.out))
  go_wp2_with fail
  exact bodyPost_ret (v := .tuple #[.agg #[(.int .u8 5), (.int .u64 0), (S []), (.slice (some ⟨da, 0, none⟩) D.length dc), (.int .i64 0), (.slice none 0 0), (.slice none 0 0)], .int .i64 p3]) (by simp [results, Tryd.results28, go_sem, Hwr.out, y0, y1, y2, y3, y4, y5, y6]) rfl ⟨.inr ⟨⟨⟨5, 0, [], D, P.noCr⟩, some ⟨da, 0, none⟩, dc, none, 0, none, 0⟩, p3, hyes, hpq, hd, rfl, fO.low (by omega)⟩, fB⟩

set_option maxRecDepth 100000 in
set_option maxHeartbeats 8000000 in
theorem take_6 (s : List UInt8) (p : Nat) (hp : p < s.length) (hs : s.length ≤ 1000000) (w : World) (hk : P.at_ s p = 6) :
    Calls Tryd.prog 28 #[S s, .int .i64 p] w (TakeADid s p w) := by
  have HS := Lib.hid hs
  have HC1 := Lib.hid (P.rdC_at hp)
  obtain ⟨p1, hp1'⟩ : ∃ p1, p1 = p + 1 := ⟨_, rfl⟩
  have hp1 : (p : Int) + 1 = (p1 : Int) := by omega
  have hp1s : p1 ≤ s.length := by omega
  have hpp1 : p < p1 := by omega
  rw [← hp1'] at HC1
  clear hp1'
  have hr0 := (Bx.fresh w 32 #[.int .u8 0, .int .u64 0, S [], .slice none 0 0, .int .i64 0, .slice none 0 0, .slice none 0 0]).up ((Below.refl _ _).alloc (Nat.le_refl _) (.cells #[(.int .u8 6), (.int .u64 0), (S []), (.slice none 0 0), (.int .i64 0), (.slice none 0 0), (.slice none 0 0)] 32))
  have hx0 := Bx.fresh (w.alloc (.cells #[.int .u8 0, .int .u64 0, S [], .slice none 0 0, .int .i64 0, .slice none 0 0, .slice none 0 0] 32)) 32 #[(.int .u8 6), (.int .u64 0), (S []), (.slice none 0 0), (.int .i64 0), (.slice none 0 0), (.slice none 0 0)]
  have hb0 : Below w.heap.size w ((w.alloc (.cells #[.int .u8 0, .int .u64 0, S [], .slice none 0 0, .int .i64 0, .slice none 0 0, .slice none 0 0] 32)).alloc (.cells #[(.int .u8 6), (.int .u64 0), (S []), (.slice none 0 0), (.int .i64 0), (.slice none 0 0), (.slice none 0 0)] 32)) := ((Below.refl _ _).alloc (Nat.le_refl _) _).alloc (by simp) _
  have hz0 : w.heap.size + 1 + 1 ≤ ((w.alloc (.cells #[.int .u8 0, .int .u64 0, S [], .slice none 0 0, .int .i64 0, .slice none 0 0, .slice none 0 0] 32)).alloc (.cells #[(.int .u8 6), (.int .u64 0), (S []), (.slice none 0 0), (.int .i64 0), (.slice none 0 0), (.slice none 0 0)] 32)).heap.size := by simp
  rw [World.size_alloc] at hx0
  rw [hk] at HC1
  have HV := Lib.hid (fun wx => refReadVar_any (s.drop p1) wx (by rw [List.length_drop]; omega))
  have hlen : (s.drop p1).length = s.length - p1 := List.length_drop
  have HN := Lib.hid (show P.rdN (s.drop p1) = if P.rOk (s.drop p1) = true then some (P.rNum (s.drop p1), s.drop (p1 + P.rSize (s.drop p1))) else none by unfold P.rdN; rw [List.drop_drop])
  have hrr := fun h => (P.row_read (s.drop p1) h).2.1
  generalize P.rOk (s.drop p1) = ok at *
  generalize P.rNum (s.drop p1) = n at *
  generalize P.rSize (s.drop p1) = z at *
  cases ok with
  | false =>
    have hno : P.rdAct (s.drop p) = none := by unfold P.rdAct; rw [HC1.out]; simp only; rw [HN.out]; rfl
    clear hrr
    obtain ⟨⟨_, _, _, _, _, _, _⟩, _, _, _, _, _, _, _⟩ := hx0.sevenF
    go_enter Tryd.func28, Tryd.ntmps28
    go_wp2_with (first
      | (go_at_call 45; (with_reducible refine (HV.out _).mono ?_); rintro e w3 ⟨rfl, hd3⟩; have hx3 := hx0.up hd3; have hr3 := hr0.up hd3; have hb3 := Chain.up hb0 hd3; have hz3 := Nat.le_trans hz0 hd3.size; obtain ⟨⟨_, _, _, _, _, _, _⟩, _, _, _, _, _, _, _⟩ := hx3.sevenF; obtain ⟨⟨_, _, _, _, _, _, _⟩, _, _, _, _, _, _, _⟩ := hr3.sevenF))
    have fA := (hr3).set7 (.int .u8 6) (.int .u64 0) (S []) (.slice none 0 0) (.int .i64 0) (.slice none 0 0) (.slice none 0 0)
    have fB := below_set7 (hb3) (Nat.le_refl w.heap.size) (.int .u8 6) (.int .u64 0) (S []) (.slice none 0 0) (.int .i64 0) (.slice none 0 0) (.slice none 0 0)
    generalize (((((((w3.setCell ⟨w.heap.size, 0, none⟩ (.int .u8 6)).setCell ⟨w.heap.size, 1, none⟩ (.int .u64 0)).setCell ⟨w.heap.size, 2, none⟩ (S [])).setCell ⟨w.heap.size, 3, none⟩ (.slice none 0 0)).setCell ⟨w.heap.size, 4, none⟩ (.int .i64 0)).setCell ⟨w.heap.size, 5, none⟩ (.slice none 0 0)).setCell ⟨w.heap.size, 6, none⟩ (.slice none 0 0)) = w9 at fA fB ⊢
    obtain ⟨⟨y0, y1, y2, y3, y4, y5, y6⟩, _, _, _, _, _, _, _⟩ := fA.sevenF
    exact bodyPost_ret (v := .tuple #[.agg #[(.int .u8 6), (.int .u64 0), (S []), (.slice none 0 0), (.int .i64 0), (.slice none 0 0), (.slice none 0 0)], .int .i64 (-1)]) (by simp [results, Tryd.results28, go_sem, y0, y1, y2, y3, y4, y5, y6]) rfl ⟨.inl ⟨hno, ⟨⟨6, 0, [], [], P.noCr⟩, none, 0, none, 0, none, 0⟩, rfl⟩, fB⟩
  | true =>
    have hz := hrr rfl
    have hq : p1 + z ≤ s.length := by omega
    obtain ⟨q, hq'⟩ : ∃ q, q = p1 + z := ⟨_, rfl⟩
    rw [← hq'] at HN hq
    have hqi : (p1 : Int) + (z : Int) = (q : Int) := by omega
    have hpq : p < q := by omega
    have hN2 : P.rdN (s.drop p1) = some (n, s.drop q) := HN.out
    have HN2 := Lib.hid hN2
    clear hN2
    clear hq' hz hlen hrr
    have HK := Lib.hid (fun wx => takeCrash_any s q hq HS.out wx)
    obtain ⟨⟨_, _, _, _, _, _, _⟩, _, _, _, _, _, _, _⟩ := hx0.sevenF
    go_enter Tryd.func28, Tryd.ntmps28
    go_wp2_with (first
      | (go_at_call 45; (with_reducible refine (HV.out _).mono ?_); rintro e w3 ⟨rfl, hd3⟩; have hx3 := hx0.up hd3; have hr3 := hr0.up hd3; have hb3 := Chain.up hb0 hd3; have hz3 := Nat.le_trans hz0 hd3.size; obtain ⟨⟨_, _, _, _, _, _, _⟩, _, _, _, _, _, _, _⟩ := hx3.sevenF; obtain ⟨⟨_, _, _, _, _, _, _⟩, _, _, _, _, _, _, _⟩ := hr3.sevenF; have hx4 : Bx (w3.setCell ⟨w.heap.size + 1, 1, none⟩ (V64 n)) (w.heap.size + 1) 32 #[(.int .u8 6), (V64 n), (S []), (.slice none 0 0), (.int .i64 0), (.slice none 0 0), (.slice none 0 0)] := hx3.set 1 (V64 n); have hr4 := hr3.other (g' := w.heap.size + 1) ?hne 1 (V64 n); (case hne => omega); have hb4 : Below w.heap.size w (w3.setCell ⟨w.heap.size + 1, 1, none⟩ (V64 n)) := hb3.setCell (p := ⟨w.heap.size + 1, 1, none⟩) (Nat.le_succ _) _; have hz4 : w.heap.size + 1 + 1 ≤ (w3.setCell ⟨w.heap.size + 1, 1, none⟩ (V64 n)).heap.size := (by simpa [World.setCell] using hz3); obtain ⟨⟨_, _, _, _, _, _, _⟩, _, _, _, _, _, _, _⟩ := hx4.sevenF; obtain ⟨⟨_, _, _, _, _, _, _⟩, _, _, _, _, _, _, _⟩ := hr4.sevenF))
    go_at_call 46
    (with_reducible refine (HK.out _).mono ?_)
    rintro e w6 ⟨hcase, hd6⟩
    have hx6 := (hx4).up hd6
    have hr6 := (hr4).up hd6
    have hb6 := Chain.up (hb4) hd6
    have hz6 := Nat.le_trans (hz4) hd6.size
    obtain ⟨⟨_, _, _, _, _, _, _⟩, _, _, _, _, _, _, _⟩ := hx6.sevenF
    obtain ⟨⟨_, _, _, _, _, _, _⟩, _, _, _, _, _, _, _⟩ := hr6.sevenF
    rcases hcase with ⟨hnoC, nn, a, kk, kc, b, m, mc, rfl⟩ | ⟨c, q2, a, b, kc, mc, hyC, hq2, hq2s, rfl, oI, oS⟩
    · have hno : P.rdAct (s.drop p) = none := by rw [P.rdAct_6 HC1.out, HN2.out]; (try simp only); rw [hnoC]
      have hx7 : Bx (((w6.setCell ⟨w.heap.size + 1, 4, none⟩ (.int .i64 nn)).setCell ⟨w.heap.size + 1, 5, none⟩ (.slice a kk kc)).setCell ⟨w.heap.size + 1, 6, none⟩ (.slice b m mc)) (w.heap.size + 1) 32 #[(.int .u8 6), (V64 n), (S []), (.slice none 0 0), (.int .i64 nn), (.slice a kk kc), (.slice b m mc)] := ((hx6.set 4 (.int .i64 nn)).set 5 (.slice a kk kc)).set 6 (.slice b m mc)
      have hr7 := ((hr6.other (g' := w.heap.size + 1) (by omega) 4 (.int .i64 nn)).other (g' := w.heap.size + 1) (by omega) 5 (.slice a kk kc)).other (g' := w.heap.size + 1) (by omega) 6 (.slice b m mc)
      have hb7 : Below w.heap.size w (((w6.setCell ⟨w.heap.size + 1, 4, none⟩ (.int .i64 nn)).setCell ⟨w.heap.size + 1, 5, none⟩ (.slice a kk kc)).setCell ⟨w.heap.size + 1, 6, none⟩ (.slice b m mc)) := ((hb6.setCell (p := ⟨w.heap.size + 1, 4, none⟩) (Nat.le_succ _) _).setCell (p := ⟨w.heap.size + 1, 5, none⟩) (Nat.le_succ _) _).setCell (p := ⟨w.heap.size + 1, 6, none⟩) (Nat.le_succ _) _
      obtain ⟨⟨_, _, _, _, _, _, _⟩, _, _, _, _, _, _, _⟩ := hx7.sevenF
      obtain ⟨⟨_, _, _, _, _, _, _⟩, _, _, _, _, _, _, _⟩ := hr7.sevenF
      go_wp2_with fail
      have hl1 : (List.replicate kk (0 : Int)).length = kk := List.length_replicate
      have hl2 : (List.replicate m ((0 : Int), 0)).length = m := List.length_replicate
      have fA := (hr7).set7 (.int .u8 6) (V64 n) (S []) (.slice none 0 0) (.int .i64 nn) (.slice a kk kc) (.slice b m mc)
      have fB := below_set7 (hb7) (Nat.le_refl w.heap.size) (.int .u8 6) (V64 n) (S []) (.slice none 0 0) (.int .i64 nn) (.slice a kk kc) (.slice b m mc)
      generalize ((((((((((w6.setCell ⟨w.heap.size + 1, 4, none⟩ (.int .i64 nn)).setCell ⟨w.heap.size + 1, 5, none⟩ (.slice a kk kc)).setCell ⟨w.heap.size + 1, 6, none⟩ (.slice b m mc)).setCell ⟨w.heap.size, 0, none⟩ (.int .u8 6)).setCell ⟨w.heap.size, 1, none⟩ (V64 n)).setCell ⟨w.heap.size, 2, none⟩ (S [])).setCell ⟨w.heap.size, 3, none⟩ (.slice none 0 0)).setCell ⟨w.heap.size, 4, none⟩ (.int .i64 nn)).setCell ⟨w.heap.size, 5, none⟩ (.slice a kk kc)).setCell ⟨w.heap.size, 6, none⟩ (.slice b m mc)) = w9 at fA fB ⊢
      obtain ⟨⟨y0, y1, y2, y3, y4, y5, y6⟩, _, _, _, _, _, _, _⟩ := fA.sevenF
      exact bodyPost_ret (v := .tuple #[.agg #[(.int .u8 6), (V64 n), (S []), (.slice none 0 0), (.int .i64 nn), (.slice a kk kc), (.slice b m mc)], .int .i64 (-1)]) (by simp [results, Tryd.results28, go_sem, y0, y1, y2, y3, y4, y5, y6]) rfl ⟨.inl ⟨hno, ⟨⟨6, n, [], [], ⟨nn, List.replicate kk 0, List.replicate m (0, 0)⟩⟩, none, 0, a, kc, b, mc⟩, by simp only [acCells, hl1, hl2]; rfl⟩, fB⟩
    · have hyes : P.rdAct (s.drop p) = some ((⟨6, n, [], [], c⟩ : P.Ac), s.drop q2) := by rw [P.rdAct_6 HC1.out, HN2.out]; (try simp only); rw [hyC]
      have hq2n : decide ((q2 : Int) < 0) = false := decide_eq_false (by omega)
      have hx7 : Bx (((w6.setCell ⟨w.heap.size + 1, 4, none⟩ (.int .i64 c.names)).setCell ⟨w.heap.size + 1, 5, none⟩ (.slice a c.keep.length kc)).setCell ⟨w.heap.size + 1, 6, none⟩ (.slice b c.spoil.length mc)) (w.heap.size + 1) 32 #[(.int .u8 6), (V64 n), (S []), (.slice none 0 0), (.int .i64 c.names), (.slice a c.keep.length kc), (.slice b c.spoil.length mc)] := ((hx6.set 4 (.int .i64 c.names)).set 5 (.slice a c.keep.length kc)).set 6 (.slice b c.spoil.length mc)
      have hr7 := ((hr6.other (g' := w.heap.size + 1) (by omega) 4 (.int .i64 c.names)).other (g' := w.heap.size + 1) (by omega) 5 (.slice a c.keep.length kc)).other (g' := w.heap.size + 1) (by omega) 6 (.slice b c.spoil.length mc)
      have hb7 : Below w.heap.size w (((w6.setCell ⟨w.heap.size + 1, 4, none⟩ (.int .i64 c.names)).setCell ⟨w.heap.size + 1, 5, none⟩ (.slice a c.keep.length kc)).setCell ⟨w.heap.size + 1, 6, none⟩ (.slice b c.spoil.length mc)) := ((hb6.setCell (p := ⟨w.heap.size + 1, 4, none⟩) (Nat.le_succ _) _).setCell (p := ⟨w.heap.size + 1, 5, none⟩) (Nat.le_succ _) _).setCell (p := ⟨w.heap.size + 1, 6, none⟩) (Nat.le_succ _) _
      have oI2 := oI.low (B' := w.heap.size + 1 + 1) (hz4)
      have oS2 := oS.low (B' := w.heap.size + 1 + 1) (hz4)
      have ho6 : AcOwn w6 (w.heap.size + 1 + 1) ⟨⟨6, n, [], [], c⟩, none, 0, a, kc, b, mc⟩ := ⟨Dr.nil _ _, oI2, oS2⟩
      have ho7 := ((ho6.other (g := w.heap.size + 1) (by omega) 4 (.int .i64 c.names)).other (g := w.heap.size + 1) (by omega) 5 (.slice a c.keep.length kc)).other (g := w.heap.size + 1) (by omega) 6 (.slice b c.spoil.length mc)
      obtain ⟨⟨_, _, _, _, _, _, _⟩, _, _, _, _, _, _, _⟩ := hx7.sevenF
      obtain ⟨⟨_, _, _, _, _, _, _⟩, _, _, _, _, _, _, _⟩ := hr7.sevenF
      go_wp2_with fail
      have fA := (hr7).set7 (.int .u8 6) (V64 n) (S []) (.slice none 0 0) (.int .i64 c.names) (.slice a c.keep.length kc) (.slice b c.spoil.length mc)
      have fB := below_set7 (hb7) (Nat.le_refl w.heap.size) (.int .u8 6) (V64 n) (S []) (.slice none 0 0) (.int .i64 c.names) (.slice a c.keep.length kc) (.slice b c.spoil.length mc)
      have fO := (ho7).other7 (g := w.heap.size) (by omega) (.int .u8 6) (V64 n) (S []) (.slice none 0 0) (.int .i64 c.names) (.slice a c.keep.length kc) (.slice b c.spoil.length mc)
      generalize ((((((((((w6.setCell ⟨w.heap.size + 1, 4, none⟩ (.int .i64 c.names)).setCell ⟨w.heap.size + 1, 5, none⟩ (.slice a c.keep.length kc)).setCell ⟨w.heap.size + 1, 6, none⟩ (.slice b c.spoil.length mc)).setCell ⟨w.heap.size, 0, none⟩ (.int .u8 6)).setCell ⟨w.heap.size, 1, none⟩ (V64 n)).setCell ⟨w.heap.size, 2, none⟩ (S [])).setCell ⟨w.heap.size, 3, none⟩ (.slice none 0 0)).setCell ⟨w.heap.size, 4, none⟩ (.int .i64 c.names)).setCell ⟨w.heap.size, 5, none⟩ (.slice a c.keep.length kc)).setCell ⟨w.heap.size, 6, none⟩ (.slice b c.spoil.length mc)) = w9 at fA fB fO ⊢
      obtain ⟨⟨y0, y1, y2, y3, y4, y5, y6⟩, _, _, _, _, _, _, _⟩ := fA.sevenF
      exact bodyPost_ret (v := .tuple #[.agg #[(.int .u8 6), (V64 n), (S []), (.slice none 0 0), (.int .i64 c.names), (.slice a c.keep.length kc), (.slice b c.spoil.length mc)], .int .i64 q2]) (by simp [results, Tryd.results28, go_sem, y0, y1, y2, y3, y4, y5, y6]) rfl ⟨.inr ⟨⟨⟨6, n, [], [], c⟩, none, 0, a, kc, b, mc⟩, q2, hyes, by omega, hq2s, rfl, fO.low (by omega)⟩, fB⟩

set_option maxRecDepth 100000 in
set_option maxHeartbeats 8000000 in
theorem take_7 (s : List UInt8) (p : Nat) (hp : p < s.length) (hs : s.length ≤ 1000000) (w : World) (hk : P.at_ s p = 7) :
    Calls Tryd.prog 28 #[S s, .int .i64 p] w (TakeADid s p w) := by
  have HS := Lib.hid hs
  have HC1 := Lib.hid (P.rdC_at hp)
  obtain ⟨p1, hp1'⟩ : ∃ p1, p1 = p + 1 := ⟨_, rfl⟩
  have hp1 : (p : Int) + 1 = (p1 : Int) := by omega
  have hp1s : p1 ≤ s.length := by omega
  have hpp1 : p < p1 := by omega
  rw [← hp1'] at HC1
  clear hp1'
  have hr0 := (Bx.fresh w 32 #[.int .u8 0, .int .u64 0, S [], .slice none 0 0, .int .i64 0, .slice none 0 0, .slice none 0 0]).up ((Below.refl _ _).alloc (Nat.le_refl _) (.cells #[(.int .u8 7), (.int .u64 0), (S []), (.slice none 0 0), (.int .i64 0), (.slice none 0 0), (.slice none 0 0)] 32))
  have hx0 := Bx.fresh (w.alloc (.cells #[.int .u8 0, .int .u64 0, S [], .slice none 0 0, .int .i64 0, .slice none 0 0, .slice none 0 0] 32)) 32 #[(.int .u8 7), (.int .u64 0), (S []), (.slice none 0 0), (.int .i64 0), (.slice none 0 0), (.slice none 0 0)]
  have hb0 : Below w.heap.size w ((w.alloc (.cells #[.int .u8 0, .int .u64 0, S [], .slice none 0 0, .int .i64 0, .slice none 0 0, .slice none 0 0] 32)).alloc (.cells #[(.int .u8 7), (.int .u64 0), (S []), (.slice none 0 0), (.int .i64 0), (.slice none 0 0), (.slice none 0 0)] 32)) := ((Below.refl _ _).alloc (Nat.le_refl _) _).alloc (by simp) _
  have hz0 : w.heap.size + 1 + 1 ≤ ((w.alloc (.cells #[.int .u8 0, .int .u64 0, S [], .slice none 0 0, .int .i64 0, .slice none 0 0, .slice none 0 0] 32)).alloc (.cells #[(.int .u8 7), (.int .u64 0), (S []), (.slice none 0 0), (.int .i64 0), (.slice none 0 0), (.slice none 0 0)] 32)).heap.size := by simp
  rw [World.size_alloc] at hx0
  rw [hk] at HC1
  have HK := Lib.hid (fun wx => takeCrash_any s p1 hp1s HS.out wx)
  have hpq := hpp1
  obtain ⟨⟨_, _, _, _, _, _, _⟩, _, _, _, _, _, _, _⟩ := hx0.sevenF
  obtain ⟨⟨_, _, _, _, _, _, _⟩, _, _, _, _, _, _, _⟩ := hr0.sevenF
  go_enter Tryd.func28, Tryd.ntmps28
  go_wp2_with fail
  go_at_call 46
  (with_reducible refine (HK.out _).mono ?_)
  rintro e w6 ⟨hcase, hd6⟩
  have hx6 := (hx0).up hd6
  have hr6 := (hr0).up hd6
  have hb6 := Chain.up (hb0) hd6
  have hz6 := Nat.le_trans (hz0) hd6.size
  obtain ⟨⟨_, _, _, _, _, _, _⟩, _, _, _, _, _, _, _⟩ := hx6.sevenF
  obtain ⟨⟨_, _, _, _, _, _, _⟩, _, _, _, _, _, _, _⟩ := hr6.sevenF
  rcases hcase with ⟨hnoC, nn, a, kk, kc, b, m, mc, rfl⟩ | ⟨c, q2, a, b, kc, mc, hyC, hq2, hq2s, rfl, oI, oS⟩
  · have hno : P.rdAct (s.drop p) = none := by rw [P.rdAct_7 HC1.out]; rw [hnoC]
    have hx7 : Bx (((w6.setCell ⟨w.heap.size + 1, 4, none⟩ (.int .i64 nn)).setCell ⟨w.heap.size + 1, 5, none⟩ (.slice a kk kc)).setCell ⟨w.heap.size + 1, 6, none⟩ (.slice b m mc)) (w.heap.size + 1) 32 #[(.int .u8 7), (.int .u64 0), (S []), (.slice none 0 0), (.int .i64 nn), (.slice a kk kc), (.slice b m mc)] := ((hx6.set 4 (.int .i64 nn)).set 5 (.slice a kk kc)).set 6 (.slice b m mc)
    have hr7 := ((hr6.other (g' := w.heap.size + 1) (by omega) 4 (.int .i64 nn)).other (g' := w.heap.size + 1) (by omega) 5 (.slice a kk kc)).other (g' := w.heap.size + 1) (by omega) 6 (.slice b m mc)
    have hb7 : Below w.heap.size w (((w6.setCell ⟨w.heap.size + 1, 4, none⟩ (.int .i64 nn)).setCell ⟨w.heap.size + 1, 5, none⟩ (.slice a kk kc)).setCell ⟨w.heap.size + 1, 6, none⟩ (.slice b m mc)) := ((hb6.setCell (p := ⟨w.heap.size + 1, 4, none⟩) (Nat.le_succ _) _).setCell (p := ⟨w.heap.size + 1, 5, none⟩) (Nat.le_succ _) _).setCell (p := ⟨w.heap.size + 1, 6, none⟩) (Nat.le_succ _) _
    obtain ⟨⟨_, _, _, _, _, _, _⟩, _, _, _, _, _, _, _⟩ := hx7.sevenF
    obtain ⟨⟨_, _, _, _, _, _, _⟩, _, _, _, _, _, _, _⟩ := hr7.sevenF
    go_wp2_with fail
    have hl1 : (List.replicate kk (0 : Int)).length = kk := List.length_replicate
    have hl2 : (List.replicate m ((0 : Int), 0)).length = m := List.length_replicate
    have fA := (hr7).set7 (.int .u8 7) (.int .u64 0) (S []) (.slice none 0 0) (.int .i64 nn) (.slice a kk kc) (.slice b m mc)
    have fB := below_set7 (hb7) (Nat.le_refl w.heap.size) (.int .u8 7) (.int .u64 0) (S []) (.slice none 0 0) (.int .i64 nn) (.slice a kk kc) (.slice b m mc)
    generalize ((((((((((w6.setCell ⟨w.heap.size + 1, 4, none⟩ (.int .i64 nn)).setCell ⟨w.heap.size + 1, 5, none⟩ (.slice a kk kc)).setCell ⟨w.heap.size + 1, 6, none⟩ (.slice b m mc)).setCell ⟨w.heap.size, 0, none⟩ (.int .u8 7)).setCell ⟨w.heap.size, 1, none⟩ (.int .u64 0)).setCell ⟨w.heap.size, 2, none⟩ (S [])).setCell ⟨w.heap.size, 3, none⟩ (.slice none 0 0)).setCell ⟨w.heap.size, 4, none⟩ (.int .i64 nn)).setCell ⟨w.heap.size, 5, none⟩ (.slice a kk kc)).setCell ⟨w.heap.size, 6, none⟩ (.slice b m mc)) = w9 at fA fB ⊢
    obtain ⟨⟨y0, y1, y2, y3, y4, y5, y6⟩, _, _, _, _, _, _, _⟩ := fA.sevenF
    exact bodyPost_ret (v := .tuple #[.agg #[(.int .u8 7), (.int .u64 0), (S []), (.slice none 0 0), (.int .i64 nn), (.slice a kk kc), (.slice b m mc)], .int .i64 (-1)]) (by simp [results, Tryd.results28, go_sem, y0, y1, y2, y3, y4, y5, y6]) rfl ⟨.inl ⟨hno, ⟨⟨7, 0, [], [], ⟨nn, List.replicate kk 0, List.replicate m (0, 0)⟩⟩, none, 0, a, kc, b, mc⟩, by simp only [acCells, hl1, hl2]; rfl⟩, fB⟩
  · have hyes : P.rdAct (s.drop p) = some ((⟨7, 0, [], [], c⟩ : P.Ac), s.drop q2) := by rw [P.rdAct_7 HC1.out]; rw [hyC]
    have hq2n : decide ((q2 : Int) < 0) = false := decide_eq_false (by omega)
    have hx7 : Bx (((w6.setCell ⟨w.heap.size + 1, 4, none⟩ (.int .i64 c.names)).setCell ⟨w.heap.size + 1, 5, none⟩ (.slice a c.keep.length kc)).setCell ⟨w.heap.size + 1, 6, none⟩ (.slice b c.spoil.length mc)) (w.heap.size + 1) 32 #[(.int .u8 7), (.int .u64 0), (S []), (.slice none 0 0), (.int .i64 c.names), (.slice a c.keep.length kc), (.slice b c.spoil.length mc)] := ((hx6.set 4 (.int .i64 c.names)).set 5 (.slice a c.keep.length kc)).set 6 (.slice b c.spoil.length mc)
    have hr7 := ((hr6.other (g' := w.heap.size + 1) (by omega) 4 (.int .i64 c.names)).other (g' := w.heap.size + 1) (by omega) 5 (.slice a c.keep.length kc)).other (g' := w.heap.size + 1) (by omega) 6 (.slice b c.spoil.length mc)
    have hb7 : Below w.heap.size w (((w6.setCell ⟨w.heap.size + 1, 4, none⟩ (.int .i64 c.names)).setCell ⟨w.heap.size + 1, 5, none⟩ (.slice a c.keep.length kc)).setCell ⟨w.heap.size + 1, 6, none⟩ (.slice b c.spoil.length mc)) := ((hb6.setCell (p := ⟨w.heap.size + 1, 4, none⟩) (Nat.le_succ _) _).setCell (p := ⟨w.heap.size + 1, 5, none⟩) (Nat.le_succ _) _).setCell (p := ⟨w.heap.size + 1, 6, none⟩) (Nat.le_succ _) _
    have oI2 := oI.low (B' := w.heap.size + 1 + 1) (hz0)
    have oS2 := oS.low (B' := w.heap.size + 1 + 1) (hz0)
    have ho6 : AcOwn w6 (w.heap.size + 1 + 1) ⟨⟨7, 0, [], [], c⟩, none, 0, a, kc, b, mc⟩ := ⟨Dr.nil _ _, oI2, oS2⟩
    have ho7 := ((ho6.other (g := w.heap.size + 1) (by omega) 4 (.int .i64 c.names)).other (g := w.heap.size + 1) (by omega) 5 (.slice a c.keep.length kc)).other (g := w.heap.size + 1) (by omega) 6 (.slice b c.spoil.length mc)
    obtain ⟨⟨_, _, _, _, _, _, _⟩, _, _, _, _, _, _, _⟩ := hx7.sevenF
    obtain ⟨⟨_, _, _, _, _, _, _⟩, _, _, _, _, _, _, _⟩ := hr7.sevenF
    go_wp2_with fail
    have fA := (hr7).set7 (.int .u8 7) (.int .u64 0) (S []) (.slice none 0 0) (.int .i64 c.names) (.slice a c.keep.length kc) (.slice b c.spoil.length mc)
    have fB := below_set7 (hb7) (Nat.le_refl w.heap.size) (.int .u8 7) (.int .u64 0) (S []) (.slice none 0 0) (.int .i64 c.names) (.slice a c.keep.length kc) (.slice b c.spoil.length mc)
    have fO := (ho7).other7 (g := w.heap.size) (by omega) (.int .u8 7) (.int .u64 0) (S []) (.slice none 0 0) (.int .i64 c.names) (.slice a c.keep.length kc) (.slice b c.spoil.length mc)
    generalize ((((((((((w6.setCell ⟨w.heap.size + 1, 4, none⟩ (.int .i64 c.names)).setCell ⟨w.heap.size + 1, 5, none⟩ (.slice a c.keep.length kc)).setCell ⟨w.heap.size + 1, 6, none⟩ (.slice b c.spoil.length mc)).setCell ⟨w.heap.size, 0, none⟩ (.int .u8 7)).setCell ⟨w.heap.size, 1, none⟩ (.int .u64 0)).setCell ⟨w.heap.size, 2, none⟩ (S [])).setCell ⟨w.heap.size, 3, none⟩ (.slice none 0 0)).setCell ⟨w.heap.size, 4, none⟩ (.int .i64 c.names)).setCell ⟨w.heap.size, 5, none⟩ (.slice a c.keep.length kc)).setCell ⟨w.heap.size, 6, none⟩ (.slice b c.spoil.length mc)) = w9 at fA fB fO ⊢
    obtain ⟨⟨y0, y1, y2, y3, y4, y5, y6⟩, _, _, _, _, _, _, _⟩ := fA.sevenF
    exact bodyPost_ret (v := .tuple #[.agg #[(.int .u8 7), (.int .u64 0), (S []), (.slice none 0 0), (.int .i64 c.names), (.slice a c.keep.length kc), (.slice b c.spoil.length mc)], .int .i64 q2]) (by simp [results, Tryd.results28, go_sem, y0, y1, y2, y3, y4, y5, y6]) rfl ⟨.inr ⟨⟨⟨7, 0, [], [], c⟩, none, 0, a, kc, b, mc⟩, q2, hyes, by omega, hq2s, rfl, fO.low (by omega)⟩, fB⟩

theorem take_any (s : List UInt8) (p : Nat) (hp : p < s.length) (hs : s.length ≤ 1000000) (w : World) :
    Calls Tryd.prog 28 #[S s, .int .i64 p] w (TakeADid s p w) := by
  by_cases h0 : P.at_ s p = 0
  · exact take_0 s p hp hs w h0
  by_cases h1 : P.at_ s p = 1
  · exact take_1 s p hp hs w h1
  by_cases h2 : P.at_ s p = 2
  · exact take_2 s p hp hs w h2
  by_cases h3 : P.at_ s p = 3
  · exact take_3 s p hp hs w h3
  by_cases h4 : P.at_ s p = 4
  · exact take_4 s p hp hs w h4
  by_cases h5 : P.at_ s p = 5
  · exact take_5 s p hp hs w h5
  by_cases h6 : P.at_ s p = 6
  · exact take_6 s p hp hs w h6
  by_cases h7 : P.at_ s p = 7
  · exact take_7 s p hp hs w h7
  exact take_big s p hp hs w _ rfl (by omega)
end Go.Proofs.YtnflbgindcejjaaDoor
