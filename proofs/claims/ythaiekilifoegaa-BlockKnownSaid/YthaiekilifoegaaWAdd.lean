/- The walks of the builder's Add, Count, Size. -/
import Derived.Test.YthaiekilifoegaaWBld
import Derived.Test.YthaiekilifoegaaWShared
import Derived.Test.YthaiekilifoegaaWTexts
import Derived.Test.YthaiekilifoegaaWInv
import Derived.Deep.RegionLaw
namespace Go.Proofs.Ythaiekilifoegaa
open Go.RowKit
set_option linter.unusedVariables false
set_option linter.unusedSimpArgs false

/-- '<=' of texts. -/
theorem leq_str (t : TypeId) (a b : List UInt8) : binOp .leq t (S a) (S b) = pure (.bool !Op.bytesLess b a) := by
  have h : binOp .leq t (S a) (S b) = pure (.bool (Op.bytesLess (ByteArray.mk a.toArray).toList (ByteArray.mk b.toArray).toList || (ByteArray.mk a.toArray).toList == (ByteArray.mk b.toArray).toList)) := by simp [binOp, Op.stringOp]
  rw [h]
  have e : ∀ l : List UInt8, (ByteArray.mk l.toArray).toList = l := fun l => by rw [Lib.toList_data]
  rw [e, e, P.less_or]

theorem str_from (s : List UInt8) (k : Nat) : (ByteArray.mk s.toArray).extract k s.length = ⟨(s.drop k).toArray⟩ := by
  rw [ByteArray.extract_mk]
  congr 2
  exact List.take_of_length_le (by simp)

set_option maxRecDepth 100000 in
set_option maxHeartbeats 2000000 in
theorem count_bld {w : World} {B g n : Nat} {vb vs : Value} {last bs : List UInt8} {ns : List Nat} (h : BldR w B g vb vs n last bs ns) :
    Calls Try.prog 10 #[.pointer (some ⟨g, 0, none⟩)] w fun e w' => e = .returned (.int .i64 n) ∧ Below w.heap.size w w' := by
  obtain ⟨⟨c0, c1, c2, c3⟩, hf⟩ := h.box.four
  go_enter Try.func10, Try.ntmps10
  go_wp2
  go_ret
  exact ⟨rfl, Below.refl _ _⟩
set_option maxRecDepth 100000 in
set_option maxHeartbeats 2000000 in
theorem size_bld {w : World} {B g n : Nat} {vb vs : Value} {last bs : List UInt8} {ns : List Nat} (h : BldR w B g vb vs n last bs ns) (hb : bs.length ≤ 1000000000) (hn : ns.length ≤ 1000000) :
    Calls Try.prog 9 #[.pointer (some ⟨g, 0, none⟩)] w fun e w' => e = .returned (.int .i64 ((bs.length + 4 * (ns.length + 1) : Nat) : Int)) ∧ Below w.heap.size w w' := by
  obtain ⟨⟨c0, c1, c2, c3⟩, hf⟩ := h.box.four
  obtain ⟨a1, d1, rfl, _⟩ := h.own.isO
  obtain ⟨a2, d2, rfl, _, _⟩ := h.nums.is numCells_len
  have hI := Lib.hid (show (bs.length : Int) + 4 * ((ns.length : Int) + 1) = ((bs.length + 4 * (ns.length + 1) : Nat) : Int) by omega)
  generalize bs.length + 4 * (ns.length + 1) = r at *
  generalize bs.length = nb at *
  generalize ns.length = nn at *
  go_enter Try.func9, Try.ntmps9
  go_wp2
  go_quiet (fail)
  go_wp2
  go_ret
  exact ⟨congrArg (fun z => Ending.returned (Value.int .i64 z)) hI.out, below_drewN (Below.refl _ _) _⟩

/-- What Add leaves: nothing is changed, or the entry is there. -/
def AddP (B g n : Nat) (vb vs : Value) (last bs : List UInt8) (ns : List Nat) (k v : List UInt8) (w : World) (e : Ending) (w' : World) : Prop :=
  e = .returned (.int .i64 (P.addE n last k v)) ∧
  (P.addE n last k v ≠ 0 → Below w.heap.size w w') ∧
  (P.addE n last k v = 0 → ∃ vb' vs', BldR w' B g vb' vs' (n + 1) k (bs ++ P.entB (if n % 4 = 0 then 0 else P.lcp last k) k v) (ns ++ (if n % 4 = 0 then [bs.length] else [])) ∧ ButS (Blks g vb vs) w w' ∧ (vb'.ownBlock = vb.ownBlock ∨ ∀ b, vb'.ownBlock = some b → w.heap.size ≤ b))

set_option maxRecDepth 100000 in
set_option maxHeartbeats 2000000 in
theorem add_long (g : Nat) (k v : List UInt8) (w : World) (h : 1024 < k.length ∨ 1024 < v.length) (hk : k.length ≤ 1000000000) (hv : v.length ≤ 1000000000) :
    Calls Try.prog 11 #[.pointer (some ⟨g, 0, none⟩), S k, S v] w fun e w' => e = .returned (.int .i64 3) ∧ Below w.heap.size w w' := by
  by_cases h1 : 1024 < k.length
  · have hi : decide ((1024 : Int) < (k.length : Int)) = true := decide_eq_true (by omega)
    go_enter Try.func11, Try.ntmps11
    go_wp2
    go_ret
    exact ⟨rfl, Below.refl _ _⟩
  · have hi : decide ((1024 : Int) < (k.length : Int)) = false := decide_eq_false (by omega)
    have hi2 : decide ((1024 : Int) < (v.length : Int)) = true := decide_eq_true (by omega)
    clear h1
    go_enter Try.func11, Try.ntmps11
    go_wp2
    go_ret
    exact ⟨rfl, Below.refl _ _⟩
attribute [local go_sem high] leq_str
set_option maxRecDepth 100000 in
set_option maxHeartbeats 2000000 in
theorem add_low {w : World} {B g n : Nat} {vb vs : Value} {last bs : List UInt8} {ns : List Nat} (h : BldR w B g vb vs n last bs ns) (k v : List UInt8) (hk : k.length ≤ 1024) (hv : v.length ≤ 1024) (hn : 0 < n) (hlo : Op.bytesLess last k = false) :
    Calls Try.prog 11 #[.pointer (some ⟨g, 0, none⟩), S k, S v] w fun e w' => e = .returned (.int .i64 1) ∧ Below w.heap.size w w' := by
  obtain ⟨⟨c0, c1, c2, c3⟩, hf⟩ := h.box.four
  have hi : decide ((1024 : Int) < (k.length : Int)) = false := decide_eq_false (by omega)
  have hi2 : decide ((1024 : Int) < (v.length : Int)) = false := decide_eq_false (by omega)
  have hi3 : decide ((0 : Int) < (n : Int)) = true := decide_eq_true (by omega)
  go_enter Try.func11, Try.ntmps11
  go_wp2
  go_ret
  exact ⟨rfl, Below.refl _ _⟩

/-- What region 11's slots hold. -/
def addR (N : Nat) (R0 T : List UInt8) (ss : List (List UInt8)) (vb : Value) (i : Nat) (v : Value) (w : World) : Prop := match i with
  | 4 => v = vb
  | 7 => ∃ a c, v = .slice a 1 c ∧ NumsAt w a [N]
  | 8 => v = S R0
  | 13 => ∃ a c, v = .slice a 2 c ∧ StrsAt w a ss
  | 14 => v = S T
  | 15 => v = S (R0 ++ T)
  | _ => True
theorem addR_up (N : Nat) (R0 T : List UInt8) (ss : List (List UInt8)) (vb : Value) (i : Nat) (v : Value) (w w' : World) (h : addR N R0 T ss vb i v w) (hb : Below w.heap.size w w') : addR N R0 T ss vb i v w' := by
  unfold addR at h ⊢
  split at h
  · exact h
  · obtain ⟨a, c, rfl, h⟩ := h; exact ⟨a, c, rfl, h.below hb⟩
  · exact h
  · obtain ⟨a, c, rfl, h⟩ := h; exact ⟨a, c, rfl, h.up hb⟩
  · exact h
  · exact h
  · trivial
/-- What region 9's slots hold. -/
def addN (B : Nat) (vb vs : Value) (N : Nat) (i : Nat) (v : Value) (w : World) : Prop := match i with
  | 4 => v = vs
  | 8 => v = vb
  | 9 => v = .int .i64 N
  | 10 => v = V64 N
  | 11 => ∃ g f, v = .slice (some ⟨g, 0, none⟩) 1 1 ∧ B ≤ g ∧ w.heap[g]? = some (.cells #[V64 N] 55 f)
  | _ => True
theorem addN_up (B : Nat) (vb vs : Value) (N : Nat) (i : Nat) (v : Value) (w w' : World) (h : addN B vb vs N i v w) (hb : Below w.heap.size w w') : addN B vb vs N i v w' := by
  unfold addN at h ⊢
  split at h
  · exact h
  · exact h
  · exact h
  · exact h
  · obtain ⟨g, f, h1, h2, h3⟩ := h; exact ⟨g, f, h1, h2, (hb.block g (lt_of_cells h3)).trans h3⟩
  · trivial
attribute [local go_sem] str_app str_from

set_option maxRecDepth 100000 in
set_option maxHeartbeats 4000000 in
/-- An entry that begins anew. -/
theorem add_new {w : World} {B g n : Nat} {vb vs : Value} {last bs : List UInt8} {ns : List Nat} (h : BldR w B g vb vs n last bs ns) (k v : List UInt8) (hk : k.length ≤ 1024) (hv : v.length ≤ 1024) (hlo : 0 < n → Op.bytesLess last k = true) (hn : n ≤ 1000000) (hbs : bs.length ≤ 1000000000) (hns : ns.length < 1000000) (hB : B ≤ w.heap.size) (h4 : n % 4 = 0) :
    Calls Try.prog 11 #[.pointer (some ⟨g, 0, none⟩), S k, S v] w fun e w' => e = .returned (.int .i64 0) ∧
      ∃ vb' vs', BldR w' B g vb' vs' (n + 1) k (bs ++ P.entB 0 k v) (ns ++ [bs.length]) ∧ ButS (Blks g vb vs) w w' ∧ (vb'.ownBlock = vb.ownBlock ∨ ∀ b, vb'.ownBlock = some b → w.heap.size ≤ b) := by
  have hr : ¬ (0 < n) ∨ (0 < n ∧ Op.bytesLess last k = true) := by
    by_cases h0 : 0 < n
    · exact .inr ⟨h0, hlo h0⟩
    · exact .inl h0
  clear hlo
  have hi : decide ((1024 : Int) < (k.length : Int)) = false := decide_eq_false (by omega)
  have hi2 : decide ((1024 : Int) < (v.length : Int)) = false := decide_eq_false (by omega)
  have hw4 : ((n : Int) % 4 == 0) = true := by rw [beq_iff_eq]; omega
  have hwb : IntKind.u64.wrap (bs.length : Int) = (bs.length : Int) := by rw [IntKind.wrap_u64]; omega
  have hbd : BldR w.drew B g vb vs n last bs ns := ⟨h.hg, h.box, h.own, h.nums⟩
  obtain ⟨⟨c0, c1, c2, c3⟩, hf⟩ := h.box.four
  obtain ⟨ss0, hss0⟩ : ∃ ss0, ss0 = [k, v] := ⟨_, rfl⟩
  obtain ⟨N0, hN0⟩ : ∃ N0 : Nat, N0 = 0 := ⟨_, rfl⟩
  obtain ⟨R0, hR0⟩ : ∃ R0, R0 = P.vars [N0] := ⟨_, rfl⟩
  obtain ⟨T0, hT0⟩ : ∃ T0, T0 = P.texts ss0 := ⟨_, rfl⟩
  have HV := Lib.hid (fun (a : Option Addr) (c : Nat) (wx : World) (hp : NumsAt wx a [N0]) => show Calls Try.prog 25 #[.slice a 1 c] wx fun e w' => e = .returned (S R0) ∧ Below wx.heap.size wx w' from by rw [hR0]; exact var_any a c [N0] wx (by simp) (by rw [hN0]; intro n hn; rw [List.mem_singleton.1 hn]; decide) hp)
  have HT := Lib.hid (fun (a : Option Addr) (c : Nat) (wx : World) (hp : StrsAt wx a ss0) => show Calls Try.prog 26 #[.slice a 2 c] wx fun e w' => e = .returned (S T0) ∧ Below wx.heap.size wx w' from by rw [hT0, show (2 : Nat) = ss0.length by rw [hss0]; rfl]; exact texts_any a c ss0 wx (by rw [hss0]; simp) (by rw [hss0]; simp [P.total]; omega) hp)
  have hR0l : R0.length ≤ 9 := by rw [hR0]; exact P.vars_len [N0]
  have hT0l : T0.length ≤ 3000 := by rw [hT0, hss0]; have := P.texts_len [k, v]; simp [P.total] at this; omega
  have hadd : ¬ 9223372036854775807 < R0.length + T0.length := by omega
  have HN0 := Lib.hid hN0
  have Hss := Lib.hid hss0
  have HR0 := Lib.hid hR0
  have HT0 := Lib.hid hT0
  clear hN0 hss0 hR0 hT0
  have H := Lib.hid h
  clear h
  obtain ⟨a1, d1, hva, _⟩ := H.out.own.isO
  obtain ⟨a2, d2, hvs, _, _⟩ := H.out.nums.is numCells_len
  go_enter Try.func11, Try.ntmps11
  rcases hr with hi3 | ⟨hi3, hlt⟩
  -- NEW
  · go_wp2_with fail
    refine wp_region_held_drew (S := fun wx => ButS (Blks g vb vs) w wx) (by kernel_rfl) (ButS.refl _ _) (fun hHeld => ?_)
    refine wpAnyH_take (i := 0) (v := ?_) rfl (by kernel_rfl) (by kernel_rfl) (by kernel_rfl) (fun _ _ _ h => h) (Or.inl ⟨by rfl, ?_⟩) hHeld ?_
    rotate_left
    · intro wq hSw; go_simp; (try with_reducible rfl)
    simp only [Act.put, List.getElem_toArray, List.getElem_cons_succ, List.getElem_cons_zero, List.setIfInBounds_toArray, List.set_cons_zero, List.set_cons_succ]
    refine wpAnyH_take (i := 1) (v := ?_) rfl (by kernel_rfl) (by kernel_rfl) (by kernel_rfl) (fun _ _ _ h => h) (Or.inl ⟨by rfl, ?_⟩) hHeld ?_
    rotate_left
    · intro wq hSw; go_simp; (try with_reducible rfl)
    simp only [Act.put, List.getElem_toArray, List.getElem_cons_succ, List.getElem_cons_zero, List.setIfInBounds_toArray, List.set_cons_zero, List.set_cons_succ]
    refine wpAnyH_take (i := 2) (v := ?_) rfl (by kernel_rfl) (by kernel_rfl) (by kernel_rfl) (fun _ _ _ h => h) (Or.inl ⟨by rfl, ?_⟩) hHeld ?_
    rotate_left
    · intro wq hSw; go_simp; (try with_reducible rfl)
    simp only [Act.put, List.getElem_toArray, List.getElem_cons_succ, List.getElem_cons_zero, List.setIfInBounds_toArray, List.set_cons_zero, List.set_cons_succ]
    refine wpAnyH_take (i := 3) (v := ?_) rfl (by kernel_rfl) (by kernel_rfl) (by kernel_rfl) (fun _ _ _ h => h) (Or.inl ⟨by rfl, ?_⟩) hHeld ?_
    rotate_left
    · intro wq hSw; go_simp; (try with_reducible rfl)
    simp only [Act.put, List.getElem_toArray, List.getElem_cons_succ, List.getElem_cons_zero, List.setIfInBounds_toArray, List.set_cons_zero, List.set_cons_succ]
    refine wpAnyH_take (i := 5) (v := ?_) rfl (by kernel_rfl) (by kernel_rfl) (by kernel_rfl) (fun _ _ _ h => h) (Or.inl ⟨by rfl, ?_⟩) hHeld ?_
    rotate_left
    · intro wq hSw; go_simp; (try with_reducible rfl)
    simp only [Act.put, List.getElem_toArray, List.getElem_cons_succ, List.getElem_cons_zero, List.setIfInBounds_toArray, List.set_cons_zero, List.set_cons_succ]
    refine wpAnyH_take (i := 6) (v := ?_) rfl (by kernel_rfl) (by kernel_rfl) (by kernel_rfl) (fun _ _ _ h => h) (Or.inl ⟨by rfl, ?_⟩) hHeld ?_
    rotate_left
    · intro wq hSw; go_simp; (try with_reducible rfl)
    simp only [Act.put, List.getElem_toArray, List.getElem_cons_succ, List.getElem_cons_zero, List.setIfInBounds_toArray, List.set_cons_zero, List.set_cons_succ]
    refine wpAnyH_take (i := 7) (v := ?_) rfl (by kernel_rfl) (by kernel_rfl) (by kernel_rfl) (fun _ _ _ h => h) (Or.inl ⟨by rfl, ?_⟩) hHeld ?_
    rotate_left
    · intro wq hSw; go_simp; (try with_reducible rfl)
    simp only [Act.put, List.getElem_toArray, List.getElem_cons_succ, List.getElem_cons_zero, List.setIfInBounds_toArray, List.set_cons_zero, List.set_cons_succ]
    refine wpAnyH_by2 (addN w.heap.size vb vs bs.length) (fun wx => Below w.heap.size w wx) (fun wx wy => Below wx.heap.size wx wy) [(4, some 44), (8, some 48), (9, some 49), (10, some 50), (11, some 51)] 4 (fun wx hx => ButS.of hx) rfl (by kernel_rfl) (by kernel_rfl) (by kernel_rfl) (by kernel_rfl) (by kernel_rfl) (by kernel_rfl) (by kernel_rfl) (addN_up w.heap.size vb vs bs.length) (Below.refl _ _).drew ?_ ?_
    · skip
      refine StepsI.skip (by kernel_rfl) ?_
      refine StepsI.skip (by kernel_rfl) ?_
      refine StepsI.skip (by kernel_rfl) ?_
      refine StepsI.skip (by kernel_rfl) ?_
      refine StepsI.cons (fun vals wx hS hd K hK => ?_) ?_
      · simp only [fillA, Act.put, List.setIfInBounds_toArray, List.set_cons_zero, List.set_cons_succ] at hK ⊢
        obtain ⟨⟨q0, q1, q2, q3⟩, qf⟩ := (H.out.box.up hS).four
        go_simp
        exact hK.out _ _ (by first | rfl | exact hvs.symm) hS (Below.refl _ _)
      refine StepsI.skip (by kernel_rfl) ?_
      refine StepsI.skip (by kernel_rfl) ?_
      refine StepsI.skip (by kernel_rfl) ?_
      refine StepsI.cons (fun vals wx hS hd K hK => ?_) ?_
      · simp only [fillA, Act.put, List.setIfInBounds_toArray, List.set_cons_zero, List.set_cons_succ] at hK ⊢
        obtain ⟨⟨q0, q1, q2, q3⟩, qf⟩ := (H.out.box.up hS).four
        go_simp
        exact hK.out _ _ (by first | rfl | exact hva.symm) hS (Below.refl _ _)
      refine StepsI.cons (fun vals wx hS hd K hK => ?_) ?_
      · simp only [fillA, Act.put, List.setIfInBounds_toArray, List.set_cons_zero, List.set_cons_succ] at hK ⊢
        have h1 : vals 8 = vb := hd 8 (some 48) (by decide) (by kernel_rfl)
        rw [hva] at h1
        simp only [h1] at hK ⊢
        go_simp
        exact hK.out _ _ rfl hS (Below.refl _ _)
      refine StepsI.cons (fun vals wx hS hd K hK => ?_) ?_
      · simp only [fillA, Act.put, List.setIfInBounds_toArray, List.set_cons_zero, List.set_cons_succ] at hK ⊢
        have h1 : vals 9 = .int .i64 bs.length := hd 9 (some 49) (by decide) (by kernel_rfl)
        simp only [h1] at hK ⊢
        go_simp
        exact hK.out _ _ rfl hS (Below.refl _ _)
      refine StepsI.cons (fun vals wx hS hd K hK => ?_) ?_
      · simp only [fillA, Act.put, List.setIfInBounds_toArray, List.set_cons_zero, List.set_cons_succ] at hK ⊢
        have h1 : vals 10 = V64 bs.length := hd 10 (some 50) (by decide) (by kernel_rfl)
        simp only [h1] at hK ⊢
        go_simp
        exact hK.out _ _ ⟨wx.heap.size, _, rfl, hS.size, heap_alloc_new wx _⟩ (hS.alloc hS.size _) ((Below.refl _ _).alloc (Nat.le_refl _) _)
      refine StepsI.skip (by kernel_rfl) ?_
      refine StepsI.skip (by kernel_rfl) ?_
      refine StepsI.skip (by kernel_rfl) ?_
      refine StepsI.skip (by kernel_rfl) ?_
      exact StepsI.nil
    · intro vals wx hS hR
      have hv4 : vals 4 = vs := hR (4, some 44) (by decide)
      obtain ⟨gx, A, hv11, hgx, hA⟩ : ∃ gx f, vals 11 = .slice (some ⟨gx, 0, none⟩) 1 1 ∧ w.heap.size ≤ gx ∧ wx.heap[gx]? = some (.cells #[V64 bs.length] 55 f) := hR (11, some 51) (by decide)
      simp only [fillA, Act.put, List.setIfInBounds_toArray, List.set_cons_zero, List.set_cons_succ, hv4, hv11]
      clear hR hv4 hv11
      generalize vals 8 = x8
      generalize vals 9 = x9
      generalize vals 10 = x10
      clear vals
      have HU := H.out.up hS
      have hbt1 : ButS (Blks g vb vs) w wx := ButS.of hS
      refine wpAnyH_one (i := 12) (by kernel_rfl) rfl (fun K hK => ?_)
      simp only [List.getElem_toArray, List.getElem_cons_succ, List.getElem_cons_zero]
      rw [if_pos (by rfl)]
      refine wp_pushNum _ _ (by rfl) B vs ns bs.length (by rfl) HU.nums hns gx _ _ hA (by rfl) (by rfl) (Nat.le_trans hB hS.size) ?_
      intro vs1 w8 hN8 hg8
      obtain ⟨a3, d3, hv3, _, _⟩ := hN8.is numCells_len
      obtain ⟨hP1, hP2, hP3⟩ := HU.pushN hN8 hg8
      have hbt2 : ButS (Blks g vb vs) w w8 := hbt1.trans ((ButS.grown (p := fun b => vs.ownBlock = some b) hg8 (fun i hi => hi.symm)).mono (fun i _ hi => .inr (.inr hi))) (fun _ _ h => h)
      obtain ⟨⟨q0, q1, q2, q3⟩, qf⟩ := hP2.four
      rw [List.length_append, List.length_singleton] at hv3
      subst hv3
      refine hK.out _ _ hbt2 ?_
      simp only [Act.put, List.getElem_toArray, List.getElem_cons_succ, List.getElem_cons_zero, List.setIfInBounds_toArray, List.set_cons_zero, List.set_cons_succ]
      clear hK K
      refine wpAnyH_take (i := 13) (v := ?_) rfl (by kernel_rfl) (by kernel_rfl) (by kernel_rfl) (fun _ _ _ h => h) (Or.inl ⟨by rfl, ?_⟩) hbt2 ?_
      rotate_left
      · intro wq hSw; go_simp; (try with_reducible rfl)
      simp only [Act.put, List.getElem_toArray, List.getElem_cons_succ, List.getElem_cons_zero, List.setIfInBounds_toArray, List.set_cons_zero, List.set_cons_succ]
      refine wpAnyH_take (i := 14) (v := ?_) rfl (by kernel_rfl) (by kernel_rfl) (by kernel_rfl) (fun _ _ _ h => h) (Or.inl ⟨by rfl, ?_⟩) hbt2 ?_
      rotate_left
      · intro wq hSw; go_simp; (try with_reducible rfl)
      simp only [Act.put, List.getElem_toArray, List.getElem_cons_succ, List.getElem_cons_zero, List.setIfInBounds_toArray, List.set_cons_zero, List.set_cons_succ]
      refine wpAnyH_one (i := 15) (by kernel_rfl) rfl (fun K hK => ?_)
      simp only [List.getElem_toArray, List.getElem_cons_succ, List.getElem_cons_zero]
      have qf1 := qf 1
      go_simp
      refine hK.out _ _ (hbt2.trans (ButS.set (p := Blks g vb vs) (.inl rfl) w8 1 _) (fun _ _ h => h)) ?_
      clear hK K
      refine wpAnyH_done (by kernel_rfl) ?_ _
      have hbt0 := hbt1.trans hP3 (fun _ _ h => h)
      clear HU hP2 hP3 q0 q1 q2 q3 qf hbt1 hbt2 hS hHeld hA hgx
      generalize Value.slice a3 (ns.length + 1) d3 = vs1 at *
      generalize w8.setCell ⟨g, 1, none⟩ vs1 = w4 at *
      have hB1 := Nat.le_trans hB hbt0.size
      go_wp2_with fail
      obtain ⟨⟨d0, d1, d2, d3⟩, df⟩ := hP1.box.four
      refine wp_region_held_drew (S := fun wx => ButS (Blk2 g vb) w4 wx) (by kernel_rfl) (ButS.refl _ _) (fun hHeld => ?_)
      refine wpAnyH_take (i := 0) (v := ?_) rfl (by kernel_rfl) (by kernel_rfl) (by kernel_rfl) (fun _ _ _ h => h) (Or.inl ⟨by rfl, ?_⟩) hHeld ?_
      rotate_left
      · intro wq hSw; go_simp; (try with_reducible rfl)
      simp only [Act.put, List.getElem_toArray, List.getElem_cons_succ, List.getElem_cons_zero, List.setIfInBounds_toArray, List.set_cons_zero, List.set_cons_succ]
      refine wpAnyH_take (i := 1) (v := ?_) rfl (by kernel_rfl) (by kernel_rfl) (by kernel_rfl) (fun _ _ _ h => h) (Or.inl ⟨by rfl, ?_⟩) hHeld ?_
      rotate_left
      · intro wq hSw; go_simp; (try with_reducible rfl)
      simp only [Act.put, List.getElem_toArray, List.getElem_cons_succ, List.getElem_cons_zero, List.setIfInBounds_toArray, List.set_cons_zero, List.set_cons_succ]
      refine wpAnyH_take (i := 2) (v := ?_) rfl (by kernel_rfl) (by kernel_rfl) (by kernel_rfl) (fun _ _ _ h => h) (Or.inl ⟨by rfl, ?_⟩) hHeld ?_
      rotate_left
      · intro wq hSw; go_simp; (try with_reducible rfl)
      simp only [Act.put, List.getElem_toArray, List.getElem_cons_succ, List.getElem_cons_zero, List.setIfInBounds_toArray, List.set_cons_zero, List.set_cons_succ]
      refine wpAnyH_take (i := 3) (v := ?_) rfl (by kernel_rfl) (by kernel_rfl) (by kernel_rfl) (fun _ _ _ h => h) (Or.inl ⟨by rfl, ?_⟩) hHeld ?_
      rotate_left
      · intro wq hSw; go_simp; (try with_reducible rfl)
      simp only [Act.put, List.getElem_toArray, List.getElem_cons_succ, List.getElem_cons_zero, List.setIfInBounds_toArray, List.set_cons_zero, List.set_cons_succ]
      refine wpAnyH_take (i := 5) (v := ?_) rfl (by kernel_rfl) (by kernel_rfl) (by kernel_rfl) (fun _ _ _ h => h) (Or.inl ⟨by rfl, ?_⟩) hHeld ?_
      rotate_left
      · intro wq hSw; go_simp; (try with_reducible rfl)
      simp only [Act.put, List.getElem_toArray, List.getElem_cons_succ, List.getElem_cons_zero, List.setIfInBounds_toArray, List.set_cons_zero, List.set_cons_succ]
      refine wpAnyH_take (i := 6) (v := ?_) rfl (by kernel_rfl) (by kernel_rfl) (by kernel_rfl) (fun _ _ _ h => h) (Or.inl ⟨by rfl, ?_⟩) hHeld ?_
      rotate_left
      · intro wq hSw; go_simp; (try with_reducible rfl)
      simp only [Act.put, List.getElem_toArray, List.getElem_cons_succ, List.getElem_cons_zero, List.setIfInBounds_toArray, List.set_cons_zero, List.set_cons_succ]
      refine wpAnyH_take (i := 9) (v := ?_) rfl (by kernel_rfl) (by kernel_rfl) (by kernel_rfl) (fun _ _ _ h => h) (Or.inl ⟨by rfl, ?_⟩) hHeld ?_
      rotate_left
      · intro wq hSw; go_simp; (try with_reducible rfl)
      simp only [Act.put, List.getElem_toArray, List.getElem_cons_succ, List.getElem_cons_zero, List.setIfInBounds_toArray, List.set_cons_zero, List.set_cons_succ]
      refine wpAnyH_take (i := 10) (v := ?_) rfl (by kernel_rfl) (by kernel_rfl) (by kernel_rfl) (fun _ _ _ h => h) (Or.inl ⟨by rfl, ?_⟩) hHeld ?_
      rotate_left
      · intro wq hSw; go_simp; (try with_reducible rfl)
      simp only [Act.put, List.getElem_toArray, List.getElem_cons_succ, List.getElem_cons_zero, List.setIfInBounds_toArray, List.set_cons_zero, List.set_cons_succ]
      refine wpAnyH_take (i := 11) (v := ?_) rfl (by kernel_rfl) (by kernel_rfl) (by kernel_rfl) (fun _ _ _ h => h) (Or.inl ⟨by rfl, ?_⟩) hHeld ?_
      rotate_left
      · intro wq hSw; go_simp; (try with_reducible rfl)
      simp only [Act.put, List.getElem_toArray, List.getElem_cons_succ, List.getElem_cons_zero, List.setIfInBounds_toArray, List.set_cons_zero, List.set_cons_succ]
      refine wpAnyH_take (i := 12) (v := ?_) rfl (by kernel_rfl) (by kernel_rfl) (by kernel_rfl) (fun _ _ _ h => h) (Or.inl ⟨by rfl, ?_⟩) hHeld ?_
      rotate_left
      · intro wq hSw; go_simp; (try with_reducible rfl)
      simp only [Act.put, List.getElem_toArray, List.getElem_cons_succ, List.getElem_cons_zero, List.setIfInBounds_toArray, List.set_cons_zero, List.set_cons_succ]
      refine wpAnyH_by2 (addR N0 R0 T0 ss0 vb) (fun wx => Below w4.heap.size w4 wx) (fun wx wy => Below wx.heap.size wx wy) [(4, some 65), (7, some 68), (8, some 69), (13, some 74), (14, some 75), (15, some 76)] 4 (fun wx hx => ButS.of hx) rfl (by kernel_rfl) (by kernel_rfl) (by kernel_rfl) (by kernel_rfl) (by kernel_rfl) (by kernel_rfl) (by kernel_rfl) (addR_up N0 R0 T0 ss0 vb) (Below.refl _ _).drew ?_ ?_
      · skip
        refine StepsI.skip (by kernel_rfl) ?_
        refine StepsI.skip (by kernel_rfl) ?_
        refine StepsI.skip (by kernel_rfl) ?_
        refine StepsI.skip (by kernel_rfl) ?_
        refine StepsI.cons (fun vals wx hS hd K hK => ?_) ?_
        · simp only [fillA, Act.put, List.setIfInBounds_toArray, List.set_cons_zero, List.set_cons_succ] at hK ⊢
          obtain ⟨⟨q0, q1, q2, q3⟩, qf⟩ := (hP1.box.up hS).four
          go_simp
          exact hK.out _ _ (by first | rfl | exact hva.symm) hS (Below.refl _ _)
        refine StepsI.skip (by kernel_rfl) ?_
        refine StepsI.skip (by kernel_rfl) ?_
        refine StepsI.cons (fun vals wx hS hd K hK => ?_) ?_
        · simp only [fillA, Act.put, List.setIfInBounds_toArray, List.set_cons_zero, List.set_cons_succ] at hK ⊢
          go_simp
          exact hK.out _ _ ⟨_, _, rfl, NumsAt.of (rows_new 1 numCells numCells_len wx [N0] _ _ (by first | (rw [HN0.out]; rfl) | (rw [hwN]; rfl) | rfl))⟩ (hS.alloc hS.size _) ((Below.refl _ _).alloc (Nat.le_refl _) _)
        refine StepsI.cons (fun vals wx hS hd K hK => ?_) ?_
        · simp only [fillA, Act.put, List.setIfInBounds_toArray, List.set_cons_zero, List.set_cons_succ] at hK ⊢
          obtain ⟨a1, c1, h1, p1⟩ := hd 7 (some 68) (by decide) (by kernel_rfl)
          simp only [h1] at hK ⊢
          go_simp
          (with_reducible refine (HV.out _ _ _ p1).mono ?_)
          rintro e1 w6 ⟨rfl, hb6⟩
          exact hK.out _ _ rfl (Chain.up hS hb6) hb6
        refine StepsI.skip (by kernel_rfl) ?_
        refine StepsI.skip (by kernel_rfl) ?_
        refine StepsI.skip (by kernel_rfl) ?_
        refine StepsI.skip (by kernel_rfl) ?_
        refine StepsI.cons (fun vals wx hS hd K hK => ?_) ?_
        · simp only [fillA, Act.put, List.setIfInBounds_toArray, List.set_cons_zero, List.set_cons_succ] at hK ⊢
          go_simp
          exact hK.out _ _ ⟨_, _, rfl, strs_new wx ss0 _ _ (by rw [Hss.out]; rfl)⟩ (hS.alloc hS.size _) ((Below.refl _ _).alloc (Nat.le_refl _) _)
        refine StepsI.cons (fun vals wx hS hd K hK => ?_) ?_
        · simp only [fillA, Act.put, List.setIfInBounds_toArray, List.set_cons_zero, List.set_cons_succ] at hK ⊢
          obtain ⟨a1, c1, h1, p1⟩ := hd 13 (some 74) (by decide) (by kernel_rfl)
          simp only [h1] at hK ⊢
          go_simp
          (with_reducible refine (HT.out _ _ _ p1).mono ?_)
          rintro e1 w6 ⟨rfl, hb6⟩
          exact hK.out _ _ rfl (Chain.up hS hb6) hb6
        refine StepsI.cons (fun vals wx hS hd K hK => ?_) ?_
        · simp only [fillA, Act.put, List.setIfInBounds_toArray, List.set_cons_zero, List.set_cons_succ] at hK ⊢
          have h1 : vals 8 = S R0 := hd 8 (some 69) (by decide) (by kernel_rfl)
          have h2 : vals 14 = S T0 := hd 14 (some 75) (by decide) (by kernel_rfl)
          simp only [h1, h2] at hK ⊢
          go_simp
          exact hK.out _ _ rfl hS (Below.refl _ _)
        refine StepsI.skip (by kernel_rfl) ?_
        refine StepsI.skip (by kernel_rfl) ?_
        refine StepsI.skip (by kernel_rfl) ?_
        refine StepsI.skip (by kernel_rfl) ?_
        exact StepsI.nil
      · intro vals wx hS hR
        have hv4 : vals 4 = vb := hR (4, some 65) (by decide)
        have hv15 : vals 15 = S (R0 ++ T0) := hR (15, some 76) (by decide)
        simp only [fillA, Act.put, List.setIfInBounds_toArray, List.set_cons_zero, List.set_cons_succ, hv4, hv15]
        clear hR hv4 hv15
        generalize vals 7 = x7
        generalize vals 8 = x8
        generalize vals 13 = x13
        generalize vals 14 = x14
        clear vals
        have HU := hP1.up hS
        have hbt1 : ButS (Blk2 g vb) w4 wx := ButS.of hS
        refine wpAnyH_one (i := 16) (by kernel_rfl) rfl (fun K hK => ?_)
        simp only [List.getElem_toArray, List.getElem_cons_succ, List.getElem_cons_zero]
        rw [if_pos (by rfl)]
        refine wp_appOwn _ _ (by rfl) B vb bs (R0 ++ T0) (by rfl) HU.own (by rfl) (by rw [List.length_append]; omega) (Nat.le_trans hB1 hS.size) ?_
        intro vb' w8 hO8 hg8 hsn8
        obtain ⟨a5, d5, hv5, _⟩ := hO8.isO
        obtain ⟨hP1, hP2, hP3⟩ := HU.pushB hO8 hg8
        have hbt2 : ButS (Blk2 g vb) w4 w8 := hbt1.trans ((ButS.grown (p := fun b => vb.ownBlock = some b) hg8 (fun i hi => hi.symm)).mono (fun i _ hi => .inr hi)) (fun _ _ h => h)
        obtain ⟨⟨q0, q1, q2, q3⟩, qf⟩ := hP2.four
        rw [List.length_append, List.length_append] at hv5
        subst hv5
        refine hK.out _ _ hbt2 ?_
        simp only [Act.put, List.getElem_toArray, List.getElem_cons_succ, List.getElem_cons_zero, List.setIfInBounds_toArray, List.set_cons_zero, List.set_cons_succ]
        clear hK K
        refine wpAnyH_take (i := 17) (v := ?_) rfl (by kernel_rfl) (by kernel_rfl) (by kernel_rfl) (fun _ _ _ h => h) (Or.inl ⟨by rfl, ?_⟩) hbt2 ?_
        rotate_left
        · intro wq hSw; go_simp; (try with_reducible rfl)
        simp only [Act.put, List.getElem_toArray, List.getElem_cons_succ, List.getElem_cons_zero, List.setIfInBounds_toArray, List.set_cons_zero, List.set_cons_succ]
        refine wpAnyH_take (i := 18) (v := ?_) rfl (by kernel_rfl) (by kernel_rfl) (by kernel_rfl) (fun _ _ _ h => h) (Or.inl ⟨by rfl, ?_⟩) hbt2 ?_
        rotate_left
        · intro wq hSw; go_simp; (try with_reducible rfl)
        simp only [Act.put, List.getElem_toArray, List.getElem_cons_succ, List.getElem_cons_zero, List.setIfInBounds_toArray, List.set_cons_zero, List.set_cons_succ]
        refine wpAnyH_one (i := 19) (by kernel_rfl) rfl (fun K hK => ?_)
        simp only [List.getElem_toArray, List.getElem_cons_succ, List.getElem_cons_zero]
        have qf0 := qf 0
        go_simp
        refine hK.out _ _ (hbt2.trans (ButS.set (p := Blk2 g vb) (.inl rfl) w8 0 _) (fun _ _ h => h)) ?_
        clear hK K
        refine wpAnyH_done (by kernel_rfl) ?_ _
        have hbt3 := hbt1.trans hP3 (fun _ _ h => h)
        have hsz3 := hS.size
        clear HU hP2 hP3 q0 q1 q2 q3 qf
        generalize Value.slice a5 (bs.length + (R0.length + T0.length)) d5 = vb' at *
        generalize w8.setCell ⟨g, 0, none⟩ vb' = w9 at *
        have hK9 := hP1.setK k
        have hN9 := hK9.setN (n + 1)
        obtain ⟨⟨q0, q1, q2, q3⟩, qf⟩ := hP1.box.four
        obtain ⟨⟨r0, r1, r2, r3⟩, rf⟩ := hK9.box.four
        have qf3 := qf 3
        have rf2 := rf 2
        go_wp2_with fail
        go_ret
        refine ⟨rfl, vb', vs1, ?_, ?_, ?_⟩
        · rw [HR0.out, HT0.out, HN0.out, Hss.out] at hN9; exact hN9
        · exact hbt0.trans ((hbt3.trans (ButS.set (p := Blk2 g vb) (.inl rfl) w9 3 _) (fun _ _ h => h)).trans (ButS.set (p := Blk2 g vb) (.inl rfl) _ 2 _) (fun _ _ h => h)) (fun i hi hh => hh.imp id .inl)
        · exact hsn8.imp id (fun h b hb => Nat.le_trans hbt0.size (Nat.le_trans hsz3 (h b hb)))
  · go_wp2_with fail
    refine wp_region_held_drew (S := fun wx => ButS (Blks g vb vs) w wx) (by kernel_rfl) (ButS.refl _ _) (fun hHeld => ?_)
    refine wpAnyH_take (i := 0) (v := ?_) rfl (by kernel_rfl) (by kernel_rfl) (by kernel_rfl) (fun _ _ _ h => h) (Or.inl ⟨by rfl, ?_⟩) hHeld ?_
    rotate_left
    · intro wq hSw; go_simp; (try with_reducible rfl)
    simp only [Act.put, List.getElem_toArray, List.getElem_cons_succ, List.getElem_cons_zero, List.setIfInBounds_toArray, List.set_cons_zero, List.set_cons_succ]
    refine wpAnyH_take (i := 1) (v := ?_) rfl (by kernel_rfl) (by kernel_rfl) (by kernel_rfl) (fun _ _ _ h => h) (Or.inl ⟨by rfl, ?_⟩) hHeld ?_
    rotate_left
    · intro wq hSw; go_simp; (try with_reducible rfl)
    simp only [Act.put, List.getElem_toArray, List.getElem_cons_succ, List.getElem_cons_zero, List.setIfInBounds_toArray, List.set_cons_zero, List.set_cons_succ]
    refine wpAnyH_take (i := 2) (v := ?_) rfl (by kernel_rfl) (by kernel_rfl) (by kernel_rfl) (fun _ _ _ h => h) (Or.inl ⟨by rfl, ?_⟩) hHeld ?_
    rotate_left
    · intro wq hSw; go_simp; (try with_reducible rfl)
    simp only [Act.put, List.getElem_toArray, List.getElem_cons_succ, List.getElem_cons_zero, List.setIfInBounds_toArray, List.set_cons_zero, List.set_cons_succ]
    refine wpAnyH_take (i := 3) (v := ?_) rfl (by kernel_rfl) (by kernel_rfl) (by kernel_rfl) (fun _ _ _ h => h) (Or.inl ⟨by rfl, ?_⟩) hHeld ?_
    rotate_left
    · intro wq hSw; go_simp; (try with_reducible rfl)
    simp only [Act.put, List.getElem_toArray, List.getElem_cons_succ, List.getElem_cons_zero, List.setIfInBounds_toArray, List.set_cons_zero, List.set_cons_succ]
    refine wpAnyH_take (i := 5) (v := ?_) rfl (by kernel_rfl) (by kernel_rfl) (by kernel_rfl) (fun _ _ _ h => h) (Or.inl ⟨by rfl, ?_⟩) hHeld ?_
    rotate_left
    · intro wq hSw; go_simp; (try with_reducible rfl)
    simp only [Act.put, List.getElem_toArray, List.getElem_cons_succ, List.getElem_cons_zero, List.setIfInBounds_toArray, List.set_cons_zero, List.set_cons_succ]
    refine wpAnyH_take (i := 6) (v := ?_) rfl (by kernel_rfl) (by kernel_rfl) (by kernel_rfl) (fun _ _ _ h => h) (Or.inl ⟨by rfl, ?_⟩) hHeld ?_
    rotate_left
    · intro wq hSw; go_simp; (try with_reducible rfl)
    simp only [Act.put, List.getElem_toArray, List.getElem_cons_succ, List.getElem_cons_zero, List.setIfInBounds_toArray, List.set_cons_zero, List.set_cons_succ]
    refine wpAnyH_take (i := 7) (v := ?_) rfl (by kernel_rfl) (by kernel_rfl) (by kernel_rfl) (fun _ _ _ h => h) (Or.inl ⟨by rfl, ?_⟩) hHeld ?_
    rotate_left
    · intro wq hSw; go_simp; (try with_reducible rfl)
    simp only [Act.put, List.getElem_toArray, List.getElem_cons_succ, List.getElem_cons_zero, List.setIfInBounds_toArray, List.set_cons_zero, List.set_cons_succ]
    refine wpAnyH_by2 (addN w.heap.size vb vs bs.length) (fun wx => Below w.heap.size w wx) (fun wx wy => Below wx.heap.size wx wy) [(4, some 44), (8, some 48), (9, some 49), (10, some 50), (11, some 51)] 4 (fun wx hx => ButS.of hx) rfl (by kernel_rfl) (by kernel_rfl) (by kernel_rfl) (by kernel_rfl) (by kernel_rfl) (by kernel_rfl) (by kernel_rfl) (addN_up w.heap.size vb vs bs.length) (Below.refl _ _).drew ?_ ?_
    · skip
      refine StepsI.skip (by kernel_rfl) ?_
      refine StepsI.skip (by kernel_rfl) ?_
      refine StepsI.skip (by kernel_rfl) ?_
      refine StepsI.skip (by kernel_rfl) ?_
      refine StepsI.cons (fun vals wx hS hd K hK => ?_) ?_
      · simp only [fillA, Act.put, List.setIfInBounds_toArray, List.set_cons_zero, List.set_cons_succ] at hK ⊢
        obtain ⟨⟨q0, q1, q2, q3⟩, qf⟩ := (H.out.box.up hS).four
        go_simp
        exact hK.out _ _ (by first | rfl | exact hvs.symm) hS (Below.refl _ _)
      refine StepsI.skip (by kernel_rfl) ?_
      refine StepsI.skip (by kernel_rfl) ?_
      refine StepsI.skip (by kernel_rfl) ?_
      refine StepsI.cons (fun vals wx hS hd K hK => ?_) ?_
      · simp only [fillA, Act.put, List.setIfInBounds_toArray, List.set_cons_zero, List.set_cons_succ] at hK ⊢
        obtain ⟨⟨q0, q1, q2, q3⟩, qf⟩ := (H.out.box.up hS).four
        go_simp
        exact hK.out _ _ (by first | rfl | exact hva.symm) hS (Below.refl _ _)
      refine StepsI.cons (fun vals wx hS hd K hK => ?_) ?_
      · simp only [fillA, Act.put, List.setIfInBounds_toArray, List.set_cons_zero, List.set_cons_succ] at hK ⊢
        have h1 : vals 8 = vb := hd 8 (some 48) (by decide) (by kernel_rfl)
        rw [hva] at h1
        simp only [h1] at hK ⊢
        go_simp
        exact hK.out _ _ rfl hS (Below.refl _ _)
      refine StepsI.cons (fun vals wx hS hd K hK => ?_) ?_
      · simp only [fillA, Act.put, List.setIfInBounds_toArray, List.set_cons_zero, List.set_cons_succ] at hK ⊢
        have h1 : vals 9 = .int .i64 bs.length := hd 9 (some 49) (by decide) (by kernel_rfl)
        simp only [h1] at hK ⊢
        go_simp
        exact hK.out _ _ rfl hS (Below.refl _ _)
      refine StepsI.cons (fun vals wx hS hd K hK => ?_) ?_
      · simp only [fillA, Act.put, List.setIfInBounds_toArray, List.set_cons_zero, List.set_cons_succ] at hK ⊢
        have h1 : vals 10 = V64 bs.length := hd 10 (some 50) (by decide) (by kernel_rfl)
        simp only [h1] at hK ⊢
        go_simp
        exact hK.out _ _ ⟨wx.heap.size, _, rfl, hS.size, heap_alloc_new wx _⟩ (hS.alloc hS.size _) ((Below.refl _ _).alloc (Nat.le_refl _) _)
      refine StepsI.skip (by kernel_rfl) ?_
      refine StepsI.skip (by kernel_rfl) ?_
      refine StepsI.skip (by kernel_rfl) ?_
      refine StepsI.skip (by kernel_rfl) ?_
      exact StepsI.nil
    · intro vals wx hS hR
      have hv4 : vals 4 = vs := hR (4, some 44) (by decide)
      obtain ⟨gx, A, hv11, hgx, hA⟩ : ∃ gx f, vals 11 = .slice (some ⟨gx, 0, none⟩) 1 1 ∧ w.heap.size ≤ gx ∧ wx.heap[gx]? = some (.cells #[V64 bs.length] 55 f) := hR (11, some 51) (by decide)
      simp only [fillA, Act.put, List.setIfInBounds_toArray, List.set_cons_zero, List.set_cons_succ, hv4, hv11]
      clear hR hv4 hv11
      generalize vals 8 = x8
      generalize vals 9 = x9
      generalize vals 10 = x10
      clear vals
      have HU := H.out.up hS
      have hbt1 : ButS (Blks g vb vs) w wx := ButS.of hS
      refine wpAnyH_one (i := 12) (by kernel_rfl) rfl (fun K hK => ?_)
      simp only [List.getElem_toArray, List.getElem_cons_succ, List.getElem_cons_zero]
      rw [if_pos (by rfl)]
      refine wp_pushNum _ _ (by rfl) B vs ns bs.length (by rfl) HU.nums hns gx _ _ hA (by rfl) (by rfl) (Nat.le_trans hB hS.size) ?_
      intro vs1 w8 hN8 hg8
      obtain ⟨a3, d3, hv3, _, _⟩ := hN8.is numCells_len
      obtain ⟨hP1, hP2, hP3⟩ := HU.pushN hN8 hg8
      have hbt2 : ButS (Blks g vb vs) w w8 := hbt1.trans ((ButS.grown (p := fun b => vs.ownBlock = some b) hg8 (fun i hi => hi.symm)).mono (fun i _ hi => .inr (.inr hi))) (fun _ _ h => h)
      obtain ⟨⟨q0, q1, q2, q3⟩, qf⟩ := hP2.four
      rw [List.length_append, List.length_singleton] at hv3
      subst hv3
      refine hK.out _ _ hbt2 ?_
      simp only [Act.put, List.getElem_toArray, List.getElem_cons_succ, List.getElem_cons_zero, List.setIfInBounds_toArray, List.set_cons_zero, List.set_cons_succ]
      clear hK K
      refine wpAnyH_take (i := 13) (v := ?_) rfl (by kernel_rfl) (by kernel_rfl) (by kernel_rfl) (fun _ _ _ h => h) (Or.inl ⟨by rfl, ?_⟩) hbt2 ?_
      rotate_left
      · intro wq hSw; go_simp; (try with_reducible rfl)
      simp only [Act.put, List.getElem_toArray, List.getElem_cons_succ, List.getElem_cons_zero, List.setIfInBounds_toArray, List.set_cons_zero, List.set_cons_succ]
      refine wpAnyH_take (i := 14) (v := ?_) rfl (by kernel_rfl) (by kernel_rfl) (by kernel_rfl) (fun _ _ _ h => h) (Or.inl ⟨by rfl, ?_⟩) hbt2 ?_
      rotate_left
      · intro wq hSw; go_simp; (try with_reducible rfl)
      simp only [Act.put, List.getElem_toArray, List.getElem_cons_succ, List.getElem_cons_zero, List.setIfInBounds_toArray, List.set_cons_zero, List.set_cons_succ]
      refine wpAnyH_one (i := 15) (by kernel_rfl) rfl (fun K hK => ?_)
      simp only [List.getElem_toArray, List.getElem_cons_succ, List.getElem_cons_zero]
      have qf1 := qf 1
      go_simp
      refine hK.out _ _ (hbt2.trans (ButS.set (p := Blks g vb vs) (.inl rfl) w8 1 _) (fun _ _ h => h)) ?_
      clear hK K
      refine wpAnyH_done (by kernel_rfl) ?_ _
      have hbt0 := hbt1.trans hP3 (fun _ _ h => h)
      clear HU hP2 hP3 q0 q1 q2 q3 qf hbt1 hbt2 hS hHeld hA hgx
      generalize Value.slice a3 (ns.length + 1) d3 = vs1 at *
      generalize w8.setCell ⟨g, 1, none⟩ vs1 = w4 at *
      have hB1 := Nat.le_trans hB hbt0.size
      go_wp2_with fail
      obtain ⟨⟨d0, d1, d2, d3⟩, df⟩ := hP1.box.four
      refine wp_region_held_drew (S := fun wx => ButS (Blk2 g vb) w4 wx) (by kernel_rfl) (ButS.refl _ _) (fun hHeld => ?_)
      refine wpAnyH_take (i := 0) (v := ?_) rfl (by kernel_rfl) (by kernel_rfl) (by kernel_rfl) (fun _ _ _ h => h) (Or.inl ⟨by rfl, ?_⟩) hHeld ?_
      rotate_left
      · intro wq hSw; go_simp; (try with_reducible rfl)
      simp only [Act.put, List.getElem_toArray, List.getElem_cons_succ, List.getElem_cons_zero, List.setIfInBounds_toArray, List.set_cons_zero, List.set_cons_succ]
      refine wpAnyH_take (i := 1) (v := ?_) rfl (by kernel_rfl) (by kernel_rfl) (by kernel_rfl) (fun _ _ _ h => h) (Or.inl ⟨by rfl, ?_⟩) hHeld ?_
      rotate_left
      · intro wq hSw; go_simp; (try with_reducible rfl)
      simp only [Act.put, List.getElem_toArray, List.getElem_cons_succ, List.getElem_cons_zero, List.setIfInBounds_toArray, List.set_cons_zero, List.set_cons_succ]
      refine wpAnyH_take (i := 2) (v := ?_) rfl (by kernel_rfl) (by kernel_rfl) (by kernel_rfl) (fun _ _ _ h => h) (Or.inl ⟨by rfl, ?_⟩) hHeld ?_
      rotate_left
      · intro wq hSw; go_simp; (try with_reducible rfl)
      simp only [Act.put, List.getElem_toArray, List.getElem_cons_succ, List.getElem_cons_zero, List.setIfInBounds_toArray, List.set_cons_zero, List.set_cons_succ]
      refine wpAnyH_take (i := 3) (v := ?_) rfl (by kernel_rfl) (by kernel_rfl) (by kernel_rfl) (fun _ _ _ h => h) (Or.inl ⟨by rfl, ?_⟩) hHeld ?_
      rotate_left
      · intro wq hSw; go_simp; (try with_reducible rfl)
      simp only [Act.put, List.getElem_toArray, List.getElem_cons_succ, List.getElem_cons_zero, List.setIfInBounds_toArray, List.set_cons_zero, List.set_cons_succ]
      refine wpAnyH_take (i := 5) (v := ?_) rfl (by kernel_rfl) (by kernel_rfl) (by kernel_rfl) (fun _ _ _ h => h) (Or.inl ⟨by rfl, ?_⟩) hHeld ?_
      rotate_left
      · intro wq hSw; go_simp; (try with_reducible rfl)
      simp only [Act.put, List.getElem_toArray, List.getElem_cons_succ, List.getElem_cons_zero, List.setIfInBounds_toArray, List.set_cons_zero, List.set_cons_succ]
      refine wpAnyH_take (i := 6) (v := ?_) rfl (by kernel_rfl) (by kernel_rfl) (by kernel_rfl) (fun _ _ _ h => h) (Or.inl ⟨by rfl, ?_⟩) hHeld ?_
      rotate_left
      · intro wq hSw; go_simp; (try with_reducible rfl)
      simp only [Act.put, List.getElem_toArray, List.getElem_cons_succ, List.getElem_cons_zero, List.setIfInBounds_toArray, List.set_cons_zero, List.set_cons_succ]
      refine wpAnyH_take (i := 9) (v := ?_) rfl (by kernel_rfl) (by kernel_rfl) (by kernel_rfl) (fun _ _ _ h => h) (Or.inl ⟨by rfl, ?_⟩) hHeld ?_
      rotate_left
      · intro wq hSw; go_simp; (try with_reducible rfl)
      simp only [Act.put, List.getElem_toArray, List.getElem_cons_succ, List.getElem_cons_zero, List.setIfInBounds_toArray, List.set_cons_zero, List.set_cons_succ]
      refine wpAnyH_take (i := 10) (v := ?_) rfl (by kernel_rfl) (by kernel_rfl) (by kernel_rfl) (fun _ _ _ h => h) (Or.inl ⟨by rfl, ?_⟩) hHeld ?_
      rotate_left
      · intro wq hSw; go_simp; (try with_reducible rfl)
      simp only [Act.put, List.getElem_toArray, List.getElem_cons_succ, List.getElem_cons_zero, List.setIfInBounds_toArray, List.set_cons_zero, List.set_cons_succ]
      refine wpAnyH_take (i := 11) (v := ?_) rfl (by kernel_rfl) (by kernel_rfl) (by kernel_rfl) (fun _ _ _ h => h) (Or.inl ⟨by rfl, ?_⟩) hHeld ?_
      rotate_left
      · intro wq hSw; go_simp; (try with_reducible rfl)
      simp only [Act.put, List.getElem_toArray, List.getElem_cons_succ, List.getElem_cons_zero, List.setIfInBounds_toArray, List.set_cons_zero, List.set_cons_succ]
      refine wpAnyH_take (i := 12) (v := ?_) rfl (by kernel_rfl) (by kernel_rfl) (by kernel_rfl) (fun _ _ _ h => h) (Or.inl ⟨by rfl, ?_⟩) hHeld ?_
      rotate_left
      · intro wq hSw; go_simp; (try with_reducible rfl)
      simp only [Act.put, List.getElem_toArray, List.getElem_cons_succ, List.getElem_cons_zero, List.setIfInBounds_toArray, List.set_cons_zero, List.set_cons_succ]
      refine wpAnyH_by2 (addR N0 R0 T0 ss0 vb) (fun wx => Below w4.heap.size w4 wx) (fun wx wy => Below wx.heap.size wx wy) [(4, some 65), (7, some 68), (8, some 69), (13, some 74), (14, some 75), (15, some 76)] 4 (fun wx hx => ButS.of hx) rfl (by kernel_rfl) (by kernel_rfl) (by kernel_rfl) (by kernel_rfl) (by kernel_rfl) (by kernel_rfl) (by kernel_rfl) (addR_up N0 R0 T0 ss0 vb) (Below.refl _ _).drew ?_ ?_
      · skip
        refine StepsI.skip (by kernel_rfl) ?_
        refine StepsI.skip (by kernel_rfl) ?_
        refine StepsI.skip (by kernel_rfl) ?_
        refine StepsI.skip (by kernel_rfl) ?_
        refine StepsI.cons (fun vals wx hS hd K hK => ?_) ?_
        · simp only [fillA, Act.put, List.setIfInBounds_toArray, List.set_cons_zero, List.set_cons_succ] at hK ⊢
          obtain ⟨⟨q0, q1, q2, q3⟩, qf⟩ := (hP1.box.up hS).four
          go_simp
          exact hK.out _ _ (by first | rfl | exact hva.symm) hS (Below.refl _ _)
        refine StepsI.skip (by kernel_rfl) ?_
        refine StepsI.skip (by kernel_rfl) ?_
        refine StepsI.cons (fun vals wx hS hd K hK => ?_) ?_
        · simp only [fillA, Act.put, List.setIfInBounds_toArray, List.set_cons_zero, List.set_cons_succ] at hK ⊢
          go_simp
          exact hK.out _ _ ⟨_, _, rfl, NumsAt.of (rows_new 1 numCells numCells_len wx [N0] _ _ (by first | (rw [HN0.out]; rfl) | (rw [hwN]; rfl) | rfl))⟩ (hS.alloc hS.size _) ((Below.refl _ _).alloc (Nat.le_refl _) _)
        refine StepsI.cons (fun vals wx hS hd K hK => ?_) ?_
        · simp only [fillA, Act.put, List.setIfInBounds_toArray, List.set_cons_zero, List.set_cons_succ] at hK ⊢
          obtain ⟨a1, c1, h1, p1⟩ := hd 7 (some 68) (by decide) (by kernel_rfl)
          simp only [h1] at hK ⊢
          go_simp
          (with_reducible refine (HV.out _ _ _ p1).mono ?_)
          rintro e1 w6 ⟨rfl, hb6⟩
          exact hK.out _ _ rfl (Chain.up hS hb6) hb6
        refine StepsI.skip (by kernel_rfl) ?_
        refine StepsI.skip (by kernel_rfl) ?_
        refine StepsI.skip (by kernel_rfl) ?_
        refine StepsI.skip (by kernel_rfl) ?_
        refine StepsI.cons (fun vals wx hS hd K hK => ?_) ?_
        · simp only [fillA, Act.put, List.setIfInBounds_toArray, List.set_cons_zero, List.set_cons_succ] at hK ⊢
          go_simp
          exact hK.out _ _ ⟨_, _, rfl, strs_new wx ss0 _ _ (by rw [Hss.out]; rfl)⟩ (hS.alloc hS.size _) ((Below.refl _ _).alloc (Nat.le_refl _) _)
        refine StepsI.cons (fun vals wx hS hd K hK => ?_) ?_
        · simp only [fillA, Act.put, List.setIfInBounds_toArray, List.set_cons_zero, List.set_cons_succ] at hK ⊢
          obtain ⟨a1, c1, h1, p1⟩ := hd 13 (some 74) (by decide) (by kernel_rfl)
          simp only [h1] at hK ⊢
          go_simp
          (with_reducible refine (HT.out _ _ _ p1).mono ?_)
          rintro e1 w6 ⟨rfl, hb6⟩
          exact hK.out _ _ rfl (Chain.up hS hb6) hb6
        refine StepsI.cons (fun vals wx hS hd K hK => ?_) ?_
        · simp only [fillA, Act.put, List.setIfInBounds_toArray, List.set_cons_zero, List.set_cons_succ] at hK ⊢
          have h1 : vals 8 = S R0 := hd 8 (some 69) (by decide) (by kernel_rfl)
          have h2 : vals 14 = S T0 := hd 14 (some 75) (by decide) (by kernel_rfl)
          simp only [h1, h2] at hK ⊢
          go_simp
          exact hK.out _ _ rfl hS (Below.refl _ _)
        refine StepsI.skip (by kernel_rfl) ?_
        refine StepsI.skip (by kernel_rfl) ?_
        refine StepsI.skip (by kernel_rfl) ?_
        refine StepsI.skip (by kernel_rfl) ?_
        exact StepsI.nil
      · intro vals wx hS hR
        have hv4 : vals 4 = vb := hR (4, some 65) (by decide)
        have hv15 : vals 15 = S (R0 ++ T0) := hR (15, some 76) (by decide)
        simp only [fillA, Act.put, List.setIfInBounds_toArray, List.set_cons_zero, List.set_cons_succ, hv4, hv15]
        clear hR hv4 hv15
        generalize vals 7 = x7
        generalize vals 8 = x8
        generalize vals 13 = x13
        generalize vals 14 = x14
        clear vals
        have HU := hP1.up hS
        have hbt1 : ButS (Blk2 g vb) w4 wx := ButS.of hS
        refine wpAnyH_one (i := 16) (by kernel_rfl) rfl (fun K hK => ?_)
        simp only [List.getElem_toArray, List.getElem_cons_succ, List.getElem_cons_zero]
        rw [if_pos (by rfl)]
        refine wp_appOwn _ _ (by rfl) B vb bs (R0 ++ T0) (by rfl) HU.own (by rfl) (by rw [List.length_append]; omega) (Nat.le_trans hB1 hS.size) ?_
        intro vb' w8 hO8 hg8 hsn8
        obtain ⟨a5, d5, hv5, _⟩ := hO8.isO
        obtain ⟨hP1, hP2, hP3⟩ := HU.pushB hO8 hg8
        have hbt2 : ButS (Blk2 g vb) w4 w8 := hbt1.trans ((ButS.grown (p := fun b => vb.ownBlock = some b) hg8 (fun i hi => hi.symm)).mono (fun i _ hi => .inr hi)) (fun _ _ h => h)
        obtain ⟨⟨q0, q1, q2, q3⟩, qf⟩ := hP2.four
        rw [List.length_append, List.length_append] at hv5
        subst hv5
        refine hK.out _ _ hbt2 ?_
        simp only [Act.put, List.getElem_toArray, List.getElem_cons_succ, List.getElem_cons_zero, List.setIfInBounds_toArray, List.set_cons_zero, List.set_cons_succ]
        clear hK K
        refine wpAnyH_take (i := 17) (v := ?_) rfl (by kernel_rfl) (by kernel_rfl) (by kernel_rfl) (fun _ _ _ h => h) (Or.inl ⟨by rfl, ?_⟩) hbt2 ?_
        rotate_left
        · intro wq hSw; go_simp; (try with_reducible rfl)
        simp only [Act.put, List.getElem_toArray, List.getElem_cons_succ, List.getElem_cons_zero, List.setIfInBounds_toArray, List.set_cons_zero, List.set_cons_succ]
        refine wpAnyH_take (i := 18) (v := ?_) rfl (by kernel_rfl) (by kernel_rfl) (by kernel_rfl) (fun _ _ _ h => h) (Or.inl ⟨by rfl, ?_⟩) hbt2 ?_
        rotate_left
        · intro wq hSw; go_simp; (try with_reducible rfl)
        simp only [Act.put, List.getElem_toArray, List.getElem_cons_succ, List.getElem_cons_zero, List.setIfInBounds_toArray, List.set_cons_zero, List.set_cons_succ]
        refine wpAnyH_one (i := 19) (by kernel_rfl) rfl (fun K hK => ?_)
        simp only [List.getElem_toArray, List.getElem_cons_succ, List.getElem_cons_zero]
        have qf0 := qf 0
        go_simp
        refine hK.out _ _ (hbt2.trans (ButS.set (p := Blk2 g vb) (.inl rfl) w8 0 _) (fun _ _ h => h)) ?_
        clear hK K
        refine wpAnyH_done (by kernel_rfl) ?_ _
        have hbt3 := hbt1.trans hP3 (fun _ _ h => h)
        have hsz3 := hS.size
        clear HU hP2 hP3 q0 q1 q2 q3 qf
        generalize Value.slice a5 (bs.length + (R0.length + T0.length)) d5 = vb' at *
        generalize w8.setCell ⟨g, 0, none⟩ vb' = w9 at *
        have hK9 := hP1.setK k
        have hN9 := hK9.setN (n + 1)
        obtain ⟨⟨q0, q1, q2, q3⟩, qf⟩ := hP1.box.four
        obtain ⟨⟨r0, r1, r2, r3⟩, rf⟩ := hK9.box.four
        have qf3 := qf 3
        have rf2 := rf 2
        go_wp2_with fail
        go_ret
        refine ⟨rfl, vb', vs1, ?_, ?_, ?_⟩
        · rw [HR0.out, HT0.out, HN0.out, Hss.out] at hN9; exact hN9
        · exact hbt0.trans ((hbt3.trans (ButS.set (p := Blk2 g vb) (.inl rfl) w9 3 _) (fun _ _ h => h)).trans (ButS.set (p := Blk2 g vb) (.inl rfl) _ 2 _) (fun _ _ h => h)) (fun i hi hh => hh.imp id .inl)
        · exact hsn8.imp id (fun h b hb => Nat.le_trans hbt0.size (Nat.le_trans hsz3 (h b hb)))
  -- END NEW
set_option maxRecDepth 100000 in
set_option maxHeartbeats 4000000 in
/-- An entry that begins as the last one. -/
theorem add_old {w : World} {B g n : Nat} {vb vs : Value} {last bs : List UInt8} {ns : List Nat} (h : BldR w B g vb vs n last bs ns) (k v : List UInt8) (hk : k.length ≤ 1024) (hv : v.length ≤ 1024) (hlt : Op.bytesLess last k = true) (hn0 : 0 < n) (hll : last.length ≤ 1024) (hn : n ≤ 1000000) (hbs : bs.length ≤ 1000000000) (hns : ns.length < 1000000) (hB : B ≤ w.heap.size) (h4 : n % 4 ≠ 0) :
    Calls Try.prog 11 #[.pointer (some ⟨g, 0, none⟩), S k, S v] w fun e w' => e = .returned (.int .i64 0) ∧
      ∃ vb' vs', BldR w' B g vb' vs' (n + 1) k (bs ++ P.entB (P.lcp last k) k v) (ns ++ []) ∧ ButS (Blks g vb vs) w w' ∧ (vb'.ownBlock = vb.ownBlock ∨ ∀ b, vb'.ownBlock = some b → w.heap.size ≤ b) := by
  have hi : decide ((1024 : Int) < (k.length : Int)) = false := decide_eq_false (by omega)
  have hi2 : decide ((1024 : Int) < (v.length : Int)) = false := decide_eq_false (by omega)
  have hw4 : ((n : Int) % 4 == 0) = false := by rw [beq_eq_false_iff_ne]; omega
  obtain ⟨⟨c0, c1, c2, c3⟩, hf⟩ := h.box.four
  have HSh := Lib.hid (fun wx => shared_any last k wx (by omega) (by omega))
  have hNk := (P.lcp_le last k).2
  generalize P.lcp last k = N0 at *
  have hwN : IntKind.u64.wrap (N0 : Int) = (N0 : Int) := by rw [IntKind.wrap_u64]; omega
  have hNi : (N0 : Int) ≤ (k.length : Int) := by omega
  obtain ⟨ss0, hss0⟩ : ∃ ss0, ss0 = [k.drop N0, v] := ⟨_, rfl⟩
  obtain ⟨R0, hR0⟩ : ∃ R0, R0 = P.vars [N0] := ⟨_, rfl⟩
  obtain ⟨T0, hT0⟩ : ∃ T0, T0 = P.texts ss0 := ⟨_, rfl⟩
  have HV := Lib.hid (fun (a : Option Addr) (c : Nat) (wx : World) (hp : NumsAt wx a [N0]) => show Calls Try.prog 25 #[.slice a 1 c] wx fun e w' => e = .returned (S R0) ∧ Below wx.heap.size wx w' from by rw [hR0]; exact var_any a c [N0] wx (by simp) (by intro n hn; rw [List.mem_singleton.1 hn]; omega) hp)
  have HT := Lib.hid (fun (a : Option Addr) (c : Nat) (wx : World) (hp : StrsAt wx a ss0) => show Calls Try.prog 26 #[.slice a 2 c] wx fun e w' => e = .returned (S T0) ∧ Below wx.heap.size wx w' from by rw [hT0, show (2 : Nat) = ss0.length by rw [hss0]; rfl]; exact texts_any a c ss0 wx (by rw [hss0]; simp) (by rw [hss0]; simp [P.total]; omega) hp)
  have hR0l : R0.length ≤ 9 := by rw [hR0]; exact P.vars_len [N0]
  have hT0l : T0.length ≤ 3000 := by rw [hT0, hss0]; have := P.texts_len [k.drop N0, v]; simp [P.total] at this; omega
  have hadd : ¬ 9223372036854775807 < R0.length + T0.length := by omega
  have Hss := Lib.hid hss0
  have HR0 := Lib.hid hR0
  have HT0 := Lib.hid hT0
  clear hss0 hR0 hT0
  have H := Lib.hid h
  clear h
  obtain ⟨a1, d1, hva, _⟩ := H.out.own.isO
  obtain ⟨a2, d2, hvs, _, _⟩ := H.out.nums.is numCells_len
  go_enter Try.func11, Try.ntmps11
  -- OLD
  go_wp2_with (go_at_call 24; (with_reducible refine (HSh.out _).mono ?_); rintro e3 w4 ⟨rfl, hb4⟩)
  have HP := H.out.up hb4
  have hbt0 : ButS (Blks g vb vs) w w4 := ButS.of hb4
  have hB1 := Nat.le_trans hB hb4.size
  obtain ⟨⟨d0, d1, d2, d3⟩, df⟩ := HP.box.four
  refine wp_region_held_drew (S := fun wx => ButS (Blk2 g vb) w4 wx) (by kernel_rfl) (ButS.refl _ _) (fun hHeld => ?_)
  refine wpAnyH_take (i := 0) (v := ?_) rfl (by kernel_rfl) (by kernel_rfl) (by kernel_rfl) (fun _ _ _ h => h) (Or.inl ⟨by rfl, ?_⟩) hHeld ?_
  rotate_left
  · intro wq hSw; go_simp; (try with_reducible rfl)
  simp only [Act.put, List.getElem_toArray, List.getElem_cons_succ, List.getElem_cons_zero, List.setIfInBounds_toArray, List.set_cons_zero, List.set_cons_succ]
  refine wpAnyH_take (i := 1) (v := ?_) rfl (by kernel_rfl) (by kernel_rfl) (by kernel_rfl) (fun _ _ _ h => h) (Or.inl ⟨by rfl, ?_⟩) hHeld ?_
  rotate_left
  · intro wq hSw; go_simp; (try with_reducible rfl)
  simp only [Act.put, List.getElem_toArray, List.getElem_cons_succ, List.getElem_cons_zero, List.setIfInBounds_toArray, List.set_cons_zero, List.set_cons_succ]
  refine wpAnyH_take (i := 2) (v := ?_) rfl (by kernel_rfl) (by kernel_rfl) (by kernel_rfl) (fun _ _ _ h => h) (Or.inl ⟨by rfl, ?_⟩) hHeld ?_
  rotate_left
  · intro wq hSw; go_simp; (try with_reducible rfl)
  simp only [Act.put, List.getElem_toArray, List.getElem_cons_succ, List.getElem_cons_zero, List.setIfInBounds_toArray, List.set_cons_zero, List.set_cons_succ]
  refine wpAnyH_take (i := 3) (v := ?_) rfl (by kernel_rfl) (by kernel_rfl) (by kernel_rfl) (fun _ _ _ h => h) (Or.inl ⟨by rfl, ?_⟩) hHeld ?_
  rotate_left
  · intro wq hSw; go_simp; (try with_reducible rfl)
  simp only [Act.put, List.getElem_toArray, List.getElem_cons_succ, List.getElem_cons_zero, List.setIfInBounds_toArray, List.set_cons_zero, List.set_cons_succ]
  refine wpAnyH_take (i := 5) (v := ?_) rfl (by kernel_rfl) (by kernel_rfl) (by kernel_rfl) (fun _ _ _ h => h) (Or.inl ⟨by rfl, ?_⟩) hHeld ?_
  rotate_left
  · intro wq hSw; go_simp; (try with_reducible rfl)
  simp only [Act.put, List.getElem_toArray, List.getElem_cons_succ, List.getElem_cons_zero, List.setIfInBounds_toArray, List.set_cons_zero, List.set_cons_succ]
  refine wpAnyH_take (i := 6) (v := ?_) rfl (by kernel_rfl) (by kernel_rfl) (by kernel_rfl) (fun _ _ _ h => h) (Or.inl ⟨by rfl, ?_⟩) hHeld ?_
  rotate_left
  · intro wq hSw; go_simp; (try with_reducible rfl)
  simp only [Act.put, List.getElem_toArray, List.getElem_cons_succ, List.getElem_cons_zero, List.setIfInBounds_toArray, List.set_cons_zero, List.set_cons_succ]
  refine wpAnyH_take (i := 9) (v := ?_) rfl (by kernel_rfl) (by kernel_rfl) (by kernel_rfl) (fun _ _ _ h => h) (Or.inl ⟨by rfl, ?_⟩) hHeld ?_
  rotate_left
  · intro wq hSw; go_simp; (try with_reducible rfl)
  simp only [Act.put, List.getElem_toArray, List.getElem_cons_succ, List.getElem_cons_zero, List.setIfInBounds_toArray, List.set_cons_zero, List.set_cons_succ]
  refine wpAnyH_take (i := 10) (v := ?_) rfl (by kernel_rfl) (by kernel_rfl) (by kernel_rfl) (fun _ _ _ h => h) (Or.inl ⟨by rfl, ?_⟩) hHeld ?_
  rotate_left
  · intro wq hSw; go_simp; (try with_reducible rfl)
  simp only [Act.put, List.getElem_toArray, List.getElem_cons_succ, List.getElem_cons_zero, List.setIfInBounds_toArray, List.set_cons_zero, List.set_cons_succ]
  refine wpAnyH_take (i := 11) (v := ?_) rfl (by kernel_rfl) (by kernel_rfl) (by kernel_rfl) (fun _ _ _ h => h) (Or.inl ⟨by rfl, ?_⟩) hHeld ?_
  rotate_left
  · intro wq hSw; go_simp; (try with_reducible rfl)
  simp only [Act.put, List.getElem_toArray, List.getElem_cons_succ, List.getElem_cons_zero, List.setIfInBounds_toArray, List.set_cons_zero, List.set_cons_succ]
  refine wpAnyH_take (i := 12) (v := ?_) rfl (by kernel_rfl) (by kernel_rfl) (by kernel_rfl) (fun _ _ _ h => h) (Or.inl ⟨by rfl, ?_⟩) hHeld ?_
  rotate_left
  · intro wq hSw; go_simp; (try with_reducible rfl)
  simp only [Act.put, List.getElem_toArray, List.getElem_cons_succ, List.getElem_cons_zero, List.setIfInBounds_toArray, List.set_cons_zero, List.set_cons_succ]
  refine wpAnyH_by2 (addR N0 R0 T0 ss0 vb) (fun wx => Below w4.heap.size w4 wx) (fun wx wy => Below wx.heap.size wx wy) [(4, some 65), (7, some 68), (8, some 69), (13, some 74), (14, some 75), (15, some 76)] 4 (fun wx hx => ButS.of hx) rfl (by kernel_rfl) (by kernel_rfl) (by kernel_rfl) (by kernel_rfl) (by kernel_rfl) (by kernel_rfl) (by kernel_rfl) (addR_up N0 R0 T0 ss0 vb) (Below.refl _ _).drew ?_ ?_
  · skip
    refine StepsI.skip (by kernel_rfl) ?_
    refine StepsI.skip (by kernel_rfl) ?_
    refine StepsI.skip (by kernel_rfl) ?_
    refine StepsI.skip (by kernel_rfl) ?_
    refine StepsI.cons (fun vals wx hS hd K hK => ?_) ?_
    · simp only [fillA, Act.put, List.setIfInBounds_toArray, List.set_cons_zero, List.set_cons_succ] at hK ⊢
      obtain ⟨⟨q0, q1, q2, q3⟩, qf⟩ := (HP.box.up hS).four
      go_simp
      exact hK.out _ _ (by first | rfl | exact hva.symm) hS (Below.refl _ _)
    refine StepsI.skip (by kernel_rfl) ?_
    refine StepsI.skip (by kernel_rfl) ?_
    refine StepsI.cons (fun vals wx hS hd K hK => ?_) ?_
    · simp only [fillA, Act.put, List.setIfInBounds_toArray, List.set_cons_zero, List.set_cons_succ] at hK ⊢
      go_simp
      exact hK.out _ _ ⟨_, _, rfl, NumsAt.of (rows_new 1 numCells numCells_len wx [N0] _ _ (by first | (rw [HN0.out]; rfl) | (rw [hwN]; rfl) | rfl))⟩ (hS.alloc hS.size _) ((Below.refl _ _).alloc (Nat.le_refl _) _)
    refine StepsI.cons (fun vals wx hS hd K hK => ?_) ?_
    · simp only [fillA, Act.put, List.setIfInBounds_toArray, List.set_cons_zero, List.set_cons_succ] at hK ⊢
      obtain ⟨a1, c1, h1, p1⟩ := hd 7 (some 68) (by decide) (by kernel_rfl)
      simp only [h1] at hK ⊢
      go_simp
      (with_reducible refine (HV.out _ _ _ p1).mono ?_)
      rintro e1 w6 ⟨rfl, hb6⟩
      exact hK.out _ _ rfl (Chain.up hS hb6) hb6
    refine StepsI.skip (by kernel_rfl) ?_
    refine StepsI.skip (by kernel_rfl) ?_
    refine StepsI.skip (by kernel_rfl) ?_
    refine StepsI.skip (by kernel_rfl) ?_
    refine StepsI.cons (fun vals wx hS hd K hK => ?_) ?_
    · simp only [fillA, Act.put, List.setIfInBounds_toArray, List.set_cons_zero, List.set_cons_succ] at hK ⊢
      go_simp
      exact hK.out _ _ ⟨_, _, rfl, strs_new wx ss0 _ _ (by rw [Hss.out]; rfl)⟩ (hS.alloc hS.size _) ((Below.refl _ _).alloc (Nat.le_refl _) _)
    refine StepsI.cons (fun vals wx hS hd K hK => ?_) ?_
    · simp only [fillA, Act.put, List.setIfInBounds_toArray, List.set_cons_zero, List.set_cons_succ] at hK ⊢
      obtain ⟨a1, c1, h1, p1⟩ := hd 13 (some 74) (by decide) (by kernel_rfl)
      simp only [h1] at hK ⊢
      go_simp
      (with_reducible refine (HT.out _ _ _ p1).mono ?_)
      rintro e1 w6 ⟨rfl, hb6⟩
      exact hK.out _ _ rfl (Chain.up hS hb6) hb6
    refine StepsI.cons (fun vals wx hS hd K hK => ?_) ?_
    · simp only [fillA, Act.put, List.setIfInBounds_toArray, List.set_cons_zero, List.set_cons_succ] at hK ⊢
      have h1 : vals 8 = S R0 := hd 8 (some 69) (by decide) (by kernel_rfl)
      have h2 : vals 14 = S T0 := hd 14 (some 75) (by decide) (by kernel_rfl)
      simp only [h1, h2] at hK ⊢
      go_simp
      exact hK.out _ _ rfl hS (Below.refl _ _)
    refine StepsI.skip (by kernel_rfl) ?_
    refine StepsI.skip (by kernel_rfl) ?_
    refine StepsI.skip (by kernel_rfl) ?_
    refine StepsI.skip (by kernel_rfl) ?_
    exact StepsI.nil
  · intro vals wx hS hR
    have hv4 : vals 4 = vb := hR (4, some 65) (by decide)
    have hv15 : vals 15 = S (R0 ++ T0) := hR (15, some 76) (by decide)
    simp only [fillA, Act.put, List.setIfInBounds_toArray, List.set_cons_zero, List.set_cons_succ, hv4, hv15]
    clear hR hv4 hv15
    generalize vals 7 = x7
    generalize vals 8 = x8
    generalize vals 13 = x13
    generalize vals 14 = x14
    clear vals
    have HU := HP.up hS
    have hbt1 : ButS (Blk2 g vb) w4 wx := ButS.of hS
    refine wpAnyH_one (i := 16) (by kernel_rfl) rfl (fun K hK => ?_)
    simp only [List.getElem_toArray, List.getElem_cons_succ, List.getElem_cons_zero]
    rw [if_pos (by rfl)]
    refine wp_appOwn _ _ (by rfl) B vb bs (R0 ++ T0) (by rfl) HU.own (by rfl) (by rw [List.length_append]; omega) (Nat.le_trans hB1 hS.size) ?_
    intro vb' w8 hO8 hg8 hsn8
    obtain ⟨a5, d5, hv5, _⟩ := hO8.isO
    obtain ⟨hP1, hP2, hP3⟩ := HU.pushB hO8 hg8
    have hbt2 : ButS (Blk2 g vb) w4 w8 := hbt1.trans ((ButS.grown (p := fun b => vb.ownBlock = some b) hg8 (fun i hi => hi.symm)).mono (fun i _ hi => .inr hi)) (fun _ _ h => h)
    obtain ⟨⟨q0, q1, q2, q3⟩, qf⟩ := hP2.four
    rw [List.length_append, List.length_append] at hv5
    subst hv5
    refine hK.out _ _ hbt2 ?_
    simp only [Act.put, List.getElem_toArray, List.getElem_cons_succ, List.getElem_cons_zero, List.setIfInBounds_toArray, List.set_cons_zero, List.set_cons_succ]
    clear hK K
    refine wpAnyH_take (i := 17) (v := ?_) rfl (by kernel_rfl) (by kernel_rfl) (by kernel_rfl) (fun _ _ _ h => h) (Or.inl ⟨by rfl, ?_⟩) hbt2 ?_
    rotate_left
    · intro wq hSw; go_simp; (try with_reducible rfl)
    simp only [Act.put, List.getElem_toArray, List.getElem_cons_succ, List.getElem_cons_zero, List.setIfInBounds_toArray, List.set_cons_zero, List.set_cons_succ]
    refine wpAnyH_take (i := 18) (v := ?_) rfl (by kernel_rfl) (by kernel_rfl) (by kernel_rfl) (fun _ _ _ h => h) (Or.inl ⟨by rfl, ?_⟩) hbt2 ?_
    rotate_left
    · intro wq hSw; go_simp; (try with_reducible rfl)
    simp only [Act.put, List.getElem_toArray, List.getElem_cons_succ, List.getElem_cons_zero, List.setIfInBounds_toArray, List.set_cons_zero, List.set_cons_succ]
    refine wpAnyH_one (i := 19) (by kernel_rfl) rfl (fun K hK => ?_)
    simp only [List.getElem_toArray, List.getElem_cons_succ, List.getElem_cons_zero]
    have qf0 := qf 0
    go_simp
    refine hK.out _ _ (hbt2.trans (ButS.set (p := Blk2 g vb) (.inl rfl) w8 0 _) (fun _ _ h => h)) ?_
    clear hK K
    refine wpAnyH_done (by kernel_rfl) ?_ _
    have hbt3 := hbt1.trans hP3 (fun _ _ h => h)
    have hsz3 := hS.size
    clear HU hP2 hP3 q0 q1 q2 q3 qf
    generalize Value.slice a5 (bs.length + (R0.length + T0.length)) d5 = vb' at *
    generalize w8.setCell ⟨g, 0, none⟩ vb' = w9 at *
    have hK9 := hP1.setK k
    have hN9 := hK9.setN (n + 1)
    obtain ⟨⟨q0, q1, q2, q3⟩, qf⟩ := hP1.box.four
    obtain ⟨⟨r0, r1, r2, r3⟩, rf⟩ := hK9.box.four
    have qf3 := qf 3
    have rf2 := rf 2
    go_wp2_with fail
    go_ret
    refine ⟨rfl, vb', vs, ?_, ?_, ?_⟩
    · rw [HR0.out, HT0.out, Hss.out, show P.vars [N0] = P.row N0 by simp [P.vars]] at hN9; rw [List.append_nil]; exact hN9
    · exact hbt0.trans ((hbt3.trans (ButS.set (p := Blk2 g vb) (.inl rfl) w9 3 _) (fun _ _ h => h)).trans (ButS.set (p := Blk2 g vb) (.inl rfl) _ 2 _) (fun _ _ h => h)) (fun i hi hh => hh.imp id .inl)
    · exact hsn8.imp id (fun h b hb => Nat.le_trans hbt0.size (Nat.le_trans hsz3 (h b hb)))
  -- END OLD
theorem add_any {w : World} {B g n : Nat} {vb vs : Value} {last bs : List UInt8} {ns : List Nat} (h : BldR w B g vb vs n last bs ns) (k v : List UInt8) (hk : k.length ≤ 1000000000) (hv : v.length ≤ 1000000000) (hll : last.length ≤ 1024) (hn : n ≤ 1000000) (hbs : bs.length ≤ 1000000000) (hns : ns.length < 1000000) (hB : B ≤ w.heap.size) :
    Calls Try.prog 11 #[.pointer (some ⟨g, 0, none⟩), S k, S v] w (AddP B g n vb vs last bs ns k v w) := by
  by_cases hl : 1024 < k.length ∨ 1024 < v.length
  · have he : P.addE n last k v = 3 := by unfold P.addE; rw [if_pos hl]
    refine (add_long g k v w hl hk hv).mono ?_
    rintro e w' ⟨rfl, hb⟩
    exact ⟨by rw [he]; rfl, fun _ => hb, fun h => by rw [he] at h; cases h⟩
  · by_cases ho : 0 < n ∧ Op.bytesLess last k = false
    · have he : P.addE n last k v = 1 := by unfold P.addE; rw [if_neg hl, if_pos ho]
      refine (add_low h k v (by omega) (by omega) ho.1 ho.2).mono ?_
      rintro e w' ⟨rfl, hb⟩
      exact ⟨by rw [he]; rfl, fun _ => hb, fun h => by rw [he] at h; cases h⟩
    · have he : P.addE n last k v = 0 := by unfold P.addE; rw [if_neg hl, if_neg ho]
      have hlt : 0 < n → Op.bytesLess last k = true := fun h0 => by
        cases hb : Op.bytesLess last k with
        | true => rfl
        | false => exact absurd ⟨h0, hb⟩ ho
      by_cases h4 : n % 4 = 0
      · refine (add_new h k v (by omega) (by omega) hlt hn hbs hns hB h4).mono ?_
        rintro e w' ⟨rfl, h'⟩
        exact ⟨by rw [he]; rfl, fun h => absurd he h, fun _ => by rw [if_pos h4, if_pos h4]; exact h'⟩
      · refine (add_old h k v (by omega) (by omega) (hlt (by omega)) (by omega) hll hn hbs hns hB h4).mono ?_
        rintro e w' ⟨rfl, h'⟩
        exact ⟨by rw [he]; rfl, fun h => absurd he h, fun _ => by rw [if_neg h4, if_neg h4]; exact h'⟩
end Go.Proofs.Ythaiekilifoegaa
