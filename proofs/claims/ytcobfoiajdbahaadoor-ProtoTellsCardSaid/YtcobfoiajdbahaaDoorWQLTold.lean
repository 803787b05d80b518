/- The walk of the law's Told: a program's answer as the document's. -/
import Derived.Test.YtcobfoiajdbahaaDoorWQHeardL
import Derived.Test.YtcobfoiajdbahaaDoorWQAnsAt
namespace Go.Proofs.YtcobfoiajdbahaaDoor
open Go.RowKit
set_option linter.unusedVariables false
set_option linter.unusedSimpArgs false
theorem rows_boxQ {α : Type} {k : Nat} {cs : α → List Value} (hk : ∀ x, (cs x).length = k) {w : World} {g : Nat} {t : TypeId} (c : α) {A : Array Value} (hx : Bx w g t A) (hA : A = (cs c).toArray) : RowsAt k cs w (some ⟨g, 0, none⟩) [c] := by
  intro i hi
  obtain rfl : i = 0 := by simp at hi; omega
  refine ⟨g, 0, rfl, hx.lt, fun j hj => ?_⟩
  rw [Nat.zero_mul, Nat.add_zero, Nat.zero_add, hx.cell j, hA]
  simp
def ltR (a : P.An) (B : Nat) (i : Nat) (v : Value) (w : World) : Prop :=
  match i with
  | 2 => v = adV a.a
  | 12 => v = pxV a.pool
  | 21 => v = .agg #[.int .u8 (a.a.fam : Nat), V64 a.a.hi, V64 a.a.lo, .int .u8 0, .int .u64 0, .int .u64 0, S a.owner, V64 a.til, .int .u8 (a.pool.a.fam : Nat), V64 a.pool.a.hi, V64 a.pool.a.lo, .int .i64 a.pool.bits, .bool a.has, .bool a.held, .bool a.live, V64 a.clock, .slice none 0 0, .slice none 0 0, .slice none 0 0]
  | 22 => ∃ g, v = .pointer (some ⟨g, 0, none⟩) ∧ B ≤ g ∧ Bx w g 62 #[.int .u8 0, .int .u64 0, .int .u64 0, .int .u8 0, .int .u64 0, .int .u64 0, .string ⟨#[]⟩, .int .u64 0, .int .u8 0, .int .u64 0, .int .u64 0, .int .i64 0, .bool false, .bool false, .bool false, .int .u64 0, .slice none 0 0, .slice none 0 0, .slice none 0 0]
  | _ => True
theorem ltR_up (a : P.An) (B : Nat) (i : Nat) (v : Value) (w w' : World) (h : ltR a B i v w) (hb : Below w.heap.size w w') : ltR a B i v w' := by
  unfold ltR at *
  split at h
  · exact h
  · exact h
  · exact h
  · obtain ⟨g, h1, h2, h3⟩ := h; exact ⟨g, h1, h2, h3.up hb⟩
  · trivial
def ltV1 (s u : Value) (c : Array Value) (B : Nat) (i : Nat) (v : Value) (w : World) : Prop :=
  match i with
  | 1 => v = s
  | 8 => v = u
  | 23 => v = .agg c
  | 24 => ∃ g, v = .slice (some ⟨g, 0, none⟩) 1 1 ∧ B ≤ g ∧ Bx w g 57 c
  | _ => True
theorem ltV1_up (s u : Value) (c : Array Value) (B : Nat) (i : Nat) (v : Value) (w w' : World) (h : ltV1 s u c B i v w) (hb : Below w.heap.size w w') : ltV1 s u c B i v w' := by
  unfold ltV1 at *
  split at h
  · exact h
  · exact h
  · exact h
  · obtain ⟨g, h1, h2, h3⟩ := h; exact ⟨g, h1, h2, h3.up hb⟩
  · trivial
def ltV3 (s u : Value) (c : Array Value) (B : Nat) (i : Nat) (v : Value) (w : World) : Prop :=
  match i with
  | 1 => v = s
  | 7 => v = u
  | 8 => ∃ g, v = .slice (some ⟨g, 0, none⟩) 1 1 ∧ B ≤ g ∧ Bx w g 44 c
  | _ => True
theorem ltV3_up (s u : Value) (c : Array Value) (B : Nat) (i : Nat) (v : Value) (w w' : World) (h : ltV3 s u c B i v w) (hb : Below w.heap.size w w') : ltV3 s u c B i v w' := by
  unfold ltV3 at *
  split at h
  · exact h
  · exact h
  · obtain ⟨g, h1, h2, h3⟩ := h; exact ⟨g, h1, h2, h3.up hb⟩
  · trivial
theorem infoEvS : (Tryd.prog.info? 82).map (·.size) = some 4 := by kernel_rfl
theorem evp_cells {w : World} {q : Option Addr} {l : List P.Ev} (h : RowsAt 4 evC w q l) (j : Nat) (hj : j < l.length) : ∃ b o, q = some ⟨b, o, none⟩ ∧ b < w.heap.size ∧ w.cell? ⟨b, o + j * 4, none⟩ = some (.int .i64 (l[j]).how) ∧ w.cell? ⟨b, o + j * 4 + 1, none⟩ = some (S (l[j]).owner) ∧ w.cell? ⟨b, o + j * 4 + 2, none⟩ = some (V64 (l[j]).at') ∧ w.cell? ⟨b, o + j * 4 + 3, none⟩ = some (V64 (l[j]).til) := by
  obtain ⟨b, o, e, hb, hc⟩ := h j hj
  exact ⟨b, o, e, hb, hc 0 (by omega), hc 1 (by omega), hc 2 (by omega), hc 3 (by omega)⟩
set_option maxRecDepth 100000 in
set_option maxHeartbeats 16000000 in
theorem lawTold_any (a : P.An) (r : Option Addr) (rc : Nat) (v : Option Addr) (vc : Nat) (p : Option Addr) (pc : Nat) (rowsL : a.rows.length ≤ 100000) (eventsL : a.events.length ≤ 100000) (poolsL : a.pools.length ≤ 100000) (w : World) (hat : AnsAt w a r v p) :
    Calls Tryd.prog 20 #[anV a r rc v vc p pc] w fun e w' => ∃ r' rc' v' vc' p' pc', e = .returned (raV a r' rc' v' vc' p' pc') ∧ OwnD w' w.heap.size a r' rc' v' vc' p' pc' ∧ Below w.heap.size w w' := by
  obtain ⟨h1, h2, hA⟩ := two_bx w #[.int .u8 (a.a.fam : Nat), V64 a.a.hi, V64 a.a.lo, S a.owner, V64 a.til, .int .u8 (a.pool.a.fam : Nat), V64 a.pool.a.hi, V64 a.pool.a.lo, .int .i64 a.pool.bits, .bool a.has, .bool a.held, .bool a.live, V64 a.clock, .slice r a.rows.length rc, .slice v a.events.length vc, .slice p a.pools.length pc] #[.int .u8 0, .int .u64 0, .int .u64 0, .int .u8 0, .int .u64 0, .int .u64 0, .string ⟨#[]⟩, .int .u64 0, .int .u8 0, .int .u64 0, .int .u64 0, .int .i64 0, .bool false, .bool false, .bool false, .int .u64 0, .slice none 0 0, .slice none 0 0, .slice none 0 0] 36 62
  go_enter Tryd.func20, Tryd.ntmps20
  go_upto_region 1 with fail
  generalize hW : (w.alloc (.cells #[.int .u8 (a.a.fam : Nat), V64 a.a.hi, V64 a.a.lo, S a.owner, V64 a.til, .int .u8 (a.pool.a.fam : Nat), V64 a.pool.a.hi, V64 a.pool.a.lo, .int .i64 a.pool.bits, .bool a.has, .bool a.held, .bool a.live, V64 a.clock, .slice r a.rows.length rc, .slice v a.events.length vc, .slice p a.pools.length pc] 36)).alloc (.cells #[.int .u8 0, .int .u64 0, .int .u64 0, .int .u8 0, .int .u64 0, .int .u64 0, .string ⟨#[]⟩, .int .u64 0, .int .u8 0, .int .u64 0, .int .u64 0, .int .i64 0, .bool false, .bool false, .bool false, .int .u64 0, .slice none 0 0, .slice none 0 0, .slice none 0 0] 62) = w2 at *
  clear hW
  have hlt2 := h2.lt
  refine wp_region_held_drew (S := fun wx => Bx wx w.heap.size 36 #[.int .u8 (a.a.fam : Nat), V64 a.a.hi, V64 a.a.lo, S a.owner, V64 a.til, .int .u8 (a.pool.a.fam : Nat), V64 a.pool.a.hi, V64 a.pool.a.lo, .int .i64 a.pool.bits, .bool a.has, .bool a.held, .bool a.live, V64 a.clock, .slice r a.rows.length rc, .slice v a.events.length vc, .slice p a.pools.length pc] ∧ Below w2.heap.size w2 wx) (by kernel_rfl) ⟨h1.drew, (Below.refl _ _).drew⟩ (fun hHeld => ?_)
  refine wpAnyH_take (i := 0) (v := ?_) rfl (by kernel_rfl) (by kernel_rfl) (by kernel_rfl) (fun _ _ _ h => h) (Or.inl ⟨by rfl, ?_⟩) hHeld ?_
  rotate_left
  · intro wq hSw; go_simp; (try with_reducible rfl)
  simp only [Act.put, nrm]
  refine wpAnyH_take (i := 1) (v := ?_) rfl (by kernel_rfl) (by kernel_rfl) (by kernel_rfl) (fun _ _ _ h => h) (Or.inl ⟨by rfl, ?_⟩) hHeld ?_
  rotate_left
  · intro wq hSw; obtain ⟨⟨q0, q1, q2, q3, q4, q5, q6, q7, q8, q9, q10, q11, q12, q13, q14, q15⟩, -⟩ := hSw.1.cells16; go_simp; (try with_reducible rfl)
  simp only [Act.put, nrm]
  refine wpAnyH_take (i := 3) (v := ?_) rfl (by kernel_rfl) (by kernel_rfl) (by kernel_rfl) (fun _ _ _ h => h) (Or.inl ⟨by rfl, ?_⟩) hHeld ?_
  rotate_left
  · intro wq hSw; go_simp; (try with_reducible rfl)
  simp only [Act.put, nrm]
  refine wpAnyH_take (i := 4) (v := ?_) rfl (by kernel_rfl) (by kernel_rfl) (by kernel_rfl) (fun _ _ _ h => h) (Or.inl ⟨by rfl, ?_⟩) hHeld ?_
  rotate_left
  · intro wq hSw; go_simp; (try with_reducible rfl)
  simp only [Act.put, nrm]
  refine wpAnyH_take (i := 5) (v := ?_) rfl (by kernel_rfl) (by kernel_rfl) (by kernel_rfl) (fun _ _ _ h => h) (Or.inl ⟨by rfl, ?_⟩) hHeld ?_
  rotate_left
  · intro wq hSw; obtain ⟨⟨q0, q1, q2, q3, q4, q5, q6, q7, q8, q9, q10, q11, q12, q13, q14, q15⟩, -⟩ := hSw.1.cells16; go_simp; (try with_reducible rfl)
  simp only [Act.put, nrm]
  refine wpAnyH_take (i := 6) (v := ?_) rfl (by kernel_rfl) (by kernel_rfl) (by kernel_rfl) (fun _ _ _ h => h) (Or.inl ⟨by rfl, ?_⟩) hHeld ?_
  rotate_left
  · intro wq hSw; go_simp; (try with_reducible rfl)
  simp only [Act.put, nrm]
  refine wpAnyH_take (i := 7) (v := ?_) rfl (by kernel_rfl) (by kernel_rfl) (by kernel_rfl) (fun _ _ _ h => h) (Or.inl ⟨by rfl, ?_⟩) hHeld ?_
  rotate_left
  · intro wq hSw; go_simp; (try with_reducible rfl)
  simp only [Act.put, nrm]
  refine wpAnyH_take (i := 8) (v := ?_) rfl (by kernel_rfl) (by kernel_rfl) (by kernel_rfl) (fun _ _ _ h => h) (Or.inl ⟨by rfl, ?_⟩) hHeld ?_
  rotate_left
  · intro wq hSw; obtain ⟨⟨q0, q1, q2, q3, q4, q5, q6, q7, q8, q9, q10, q11, q12, q13, q14, q15⟩, -⟩ := hSw.1.cells16; go_simp; (try with_reducible rfl)
  simp only [Act.put, nrm]
  refine wpAnyH_take (i := 9) (v := ?_) rfl (by kernel_rfl) (by kernel_rfl) (by kernel_rfl) (fun _ _ _ h => h) (Or.inl ⟨by rfl, ?_⟩) hHeld ?_
  rotate_left
  · intro wq hSw; go_simp; (try with_reducible rfl)
  simp only [Act.put, nrm]
  refine wpAnyH_take (i := 10) (v := ?_) rfl (by kernel_rfl) (by kernel_rfl) (by kernel_rfl) (fun _ _ _ h => h) (Or.inl ⟨by rfl, ?_⟩) hHeld ?_
  rotate_left
  · intro wq hSw; go_simp; (try with_reducible rfl)
  simp only [Act.put, nrm]
  refine wpAnyH_take (i := 11) (v := ?_) rfl (by kernel_rfl) (by kernel_rfl) (by kernel_rfl) (fun _ _ _ h => h) (Or.inl ⟨by rfl, ?_⟩) hHeld ?_
  rotate_left
  · intro wq hSw; obtain ⟨⟨q0, q1, q2, q3, q4, q5, q6, q7, q8, q9, q10, q11, q12, q13, q14, q15⟩, -⟩ := hSw.1.cells16; go_simp; (try with_reducible rfl)
  simp only [Act.put, nrm]
  refine wpAnyH_take (i := 13) (v := ?_) rfl (by kernel_rfl) (by kernel_rfl) (by kernel_rfl) (fun _ _ _ h => h) (Or.inl ⟨by rfl, ?_⟩) hHeld ?_
  rotate_left
  · intro wq hSw; go_simp; (try with_reducible rfl)
  simp only [Act.put, nrm]
  refine wpAnyH_take (i := 14) (v := ?_) rfl (by kernel_rfl) (by kernel_rfl) (by kernel_rfl) (fun _ _ _ h => h) (Or.inl ⟨by rfl, ?_⟩) hHeld ?_
  rotate_left
  · intro wq hSw; obtain ⟨⟨q0, q1, q2, q3, q4, q5, q6, q7, q8, q9, q10, q11, q12, q13, q14, q15⟩, -⟩ := hSw.1.cells16; go_simp; (try with_reducible rfl)
  simp only [Act.put, nrm]
  refine wpAnyH_take (i := 15) (v := ?_) rfl (by kernel_rfl) (by kernel_rfl) (by kernel_rfl) (fun _ _ _ h => h) (Or.inl ⟨by rfl, ?_⟩) hHeld ?_
  rotate_left
  · intro wq hSw; go_simp; (try with_reducible rfl)
  simp only [Act.put, nrm]
  refine wpAnyH_take (i := 16) (v := ?_) rfl (by kernel_rfl) (by kernel_rfl) (by kernel_rfl) (fun _ _ _ h => h) (Or.inl ⟨by rfl, ?_⟩) hHeld ?_
  rotate_left
  · intro wq hSw; obtain ⟨⟨q0, q1, q2, q3, q4, q5, q6, q7, q8, q9, q10, q11, q12, q13, q14, q15⟩, -⟩ := hSw.1.cells16; go_simp; (try with_reducible rfl)
  simp only [Act.put, nrm]
  refine wpAnyH_take (i := 17) (v := ?_) rfl (by kernel_rfl) (by kernel_rfl) (by kernel_rfl) (fun _ _ _ h => h) (Or.inl ⟨by rfl, ?_⟩) hHeld ?_
  rotate_left
  · intro wq hSw; go_simp; (try with_reducible rfl)
  simp only [Act.put, nrm]
  refine wpAnyH_take (i := 18) (v := ?_) rfl (by kernel_rfl) (by kernel_rfl) (by kernel_rfl) (fun _ _ _ h => h) (Or.inl ⟨by rfl, ?_⟩) hHeld ?_
  rotate_left
  · intro wq hSw; obtain ⟨⟨q0, q1, q2, q3, q4, q5, q6, q7, q8, q9, q10, q11, q12, q13, q14, q15⟩, -⟩ := hSw.1.cells16; go_simp; (try with_reducible rfl)
  simp only [Act.put, nrm]
  refine wpAnyH_take (i := 19) (v := ?_) rfl (by kernel_rfl) (by kernel_rfl) (by kernel_rfl) (fun _ _ _ h => h) (Or.inl ⟨by rfl, ?_⟩) hHeld ?_
  rotate_left
  · intro wq hSw; go_simp; (try with_reducible rfl)
  simp only [Act.put, nrm]
  refine wpAnyH_take (i := 20) (v := ?_) rfl (by kernel_rfl) (by kernel_rfl) (by kernel_rfl) (fun _ _ _ h => h) (Or.inl ⟨by rfl, ?_⟩) hHeld ?_
  rotate_left
  · intro wq hSw; obtain ⟨⟨q0, q1, q2, q3, q4, q5, q6, q7, q8, q9, q10, q11, q12, q13, q14, q15⟩, -⟩ := hSw.1.cells16; go_simp; (try with_reducible rfl)
  simp only [Act.put, nrm]
  refine wpAnyH_by (ltR a w2.heap.size) (fun wx wy => Below wx.heap.size wx wy) [(2, some 10), (12, some 20), (21, some 29), (22, some 3)] 1 rfl (by kernel_rfl) (by kernel_rfl) (by kernel_rfl) (by kernel_rfl) (by kernel_rfl) (by kernel_rfl) (by kernel_rfl) (ltR_up a w2.heap.size) hHeld ?_ ?_
  · skip
    refine StepsI.skip (by kernel_rfl) ?_
    refine StepsI.skip (by kernel_rfl) ?_
    refine StepsI.cons (fun vals wx hS hd K hK => ?_) ?_
    · simp only [fillA, Act.put, List.setIfInBounds_toArray, List.set_cons_zero, List.set_cons_succ] at hK ⊢
      go_simp
      (with_reducible refine (given19_any a.a _).mono ?_)
      rintro e w5 ⟨rfl, hb5⟩
      exact hK.out _ _ rfl ⟨hS.1.up hb5, Chain.up hS.2 hb5⟩ hb5
    refine StepsI.skip (by kernel_rfl) ?_
    refine StepsI.skip (by kernel_rfl) ?_
    refine StepsI.skip (by kernel_rfl) ?_
    refine StepsI.skip (by kernel_rfl) ?_
    refine StepsI.skip (by kernel_rfl) ?_
    refine StepsI.skip (by kernel_rfl) ?_
    refine StepsI.skip (by kernel_rfl) ?_
    refine StepsI.skip (by kernel_rfl) ?_
    refine StepsI.skip (by kernel_rfl) ?_
    refine StepsI.cons (fun vals wx hS hd K hK => ?_) ?_
    · simp only [fillA, Act.put, List.setIfInBounds_toArray, List.set_cons_zero, List.set_cons_succ] at hK ⊢
      go_simp
      (with_reducible refine (given20_any a.pool _).mono ?_)
      rintro e w5 ⟨rfl, hb5⟩
      exact hK.out _ _ rfl ⟨hS.1.up hb5, Chain.up hS.2 hb5⟩ hb5
    refine StepsI.skip (by kernel_rfl) ?_
    refine StepsI.skip (by kernel_rfl) ?_
    refine StepsI.skip (by kernel_rfl) ?_
    refine StepsI.skip (by kernel_rfl) ?_
    refine StepsI.skip (by kernel_rfl) ?_
    refine StepsI.skip (by kernel_rfl) ?_
    refine StepsI.skip (by kernel_rfl) ?_
    refine StepsI.skip (by kernel_rfl) ?_
    refine StepsI.cons (fun vals wx hS hd K hK => ?_) ?_
    · simp only [fillA, Act.put, List.setIfInBounds_toArray, List.set_cons_zero, List.set_cons_succ] at hK ⊢
      have h1 : vals 2 = adV a.a := hd 2 (some 10) (by decide) (by kernel_rfl)
      have h2 : vals 12 = pxV a.pool := hd 12 (some 20) (by decide) (by kernel_rfl)
      simp only [h1, h2] at hK ⊢
      go_simp
      exact hK.out _ _ rfl hS (Below.refl _ _)
    refine StepsI.cons (fun vals wx hS hd K hK => ?_) ?_
    · simp only [fillA, Act.put, List.setIfInBounds_toArray, List.set_cons_zero, List.set_cons_succ] at hK ⊢
      go_simp
      exact hK.out _ _ ⟨_, rfl, hS.2.size, Bx.fresh _ _ _⟩ ⟨hS.1.alloc _, hS.2.alloc hS.2.size _⟩ ((Below.refl _ _).alloc (Nat.le_refl _) _)
    refine StepsI.skip (by kernel_rfl) ?_
    exact StepsI.nil
  · intro vals wx hS hR
    have v2 : vals 2 = adV a.a := hR (2, some 10) (by decide)
    have v12 : vals 12 = pxV a.pool := hR (12, some 20) (by decide)
    obtain ⟨gO, hgO, hgB, hO⟩ : ∃ g, vals 22 = .pointer (some ⟨g, 0, none⟩) ∧ w2.heap.size ≤ g ∧ Bx wx g 62 #[.int .u8 0, .int .u64 0, .int .u64 0, .int .u8 0, .int .u64 0, .int .u64 0, .string ⟨#[]⟩, .int .u64 0, .int .u8 0, .int .u64 0, .int .u64 0, .int .i64 0, .bool false, .bool false, .bool false, .int .u64 0, .slice none 0 0, .slice none 0 0, .slice none 0 0] := hR (22, some 3) (by decide)
    have v21 : vals 21 = .agg #[.int .u8 (a.a.fam : Nat), V64 a.a.hi, V64 a.a.lo, .int .u8 0, .int .u64 0, .int .u64 0, S a.owner, V64 a.til, .int .u8 (a.pool.a.fam : Nat), V64 a.pool.a.hi, V64 a.pool.a.lo, .int .i64 a.pool.bits, .bool a.has, .bool a.held, .bool a.live, V64 a.clock, .slice none 0 0, .slice none 0 0, .slice none 0 0] := hR (21, some 29) (by decide)
    simp only [fillA, Act.put, List.setIfInBounds_toArray, List.set_cons_zero, List.set_cons_succ, v2, v12, v21, hgO]
    clear hR v2 v12 v21 hgO vals
    have z2 := h2.up hS.2
    have hA2 := Chain.up hA hS.2
    refine wpAnyH_one (i := 23) (by kernel_rfl) rfl (fun K hK => ?_)
    simp only [nrm]
    rw [if_pos (by rfl)]
    refine wp_stB _ _ _ (by rfl) hO _ _ (by rfl) (by rfl) 19 19 (by rfl) (by rfl) (by decide) infoRAn (by rfl) (by rfl) ?_
    intro w3 hz' hb3
    have h3 : Bx w3 gO 62 #[.int .u8 (a.a.fam : Nat), V64 a.a.hi, V64 a.a.lo, .int .u8 0, .int .u64 0, .int .u64 0, S a.owner, V64 a.til, .int .u8 (a.pool.a.fam : Nat), V64 a.pool.a.hi, V64 a.pool.a.lo, .int .i64 a.pool.bits, .bool a.has, .bool a.held, .bool a.live, V64 a.clock, .slice none 0 0, .slice none 0 0, .slice none 0 0] := hz'
    have p3 := hS.1.but hb3 (by omega)
    have z3 := z2.but hb3 (by omega)
    have hS3 := And.intro p3 (hS.2.trans (hb3.below hgB hS.2.size))
    have hA3 := hA2.trans (hb3.below (by omega) hA2.size)
    refine hK.out _ _ hS3 ?_
    simp only [Act.put, nrm]
    clear hK K
    refine wpAnyH_done (by kernel_rfl) ?_ _
    clear hHeld hS hO z2 hA2 hb3 hS3 h1 h2 hA
    have hgO : w.heap.size + 1 < gO := by omega
    clear hlt2 hgB
    go_wp2_with fail
    go_loopw [4] (fun i wr => ∃ (k : Nat) (a1 : Option Addr) (c1 : Nat), k ≤ a.rows.length ∧ i = .int .i64 ((k : Nat) : Int) ∧ Bx wr w.heap.size 36 #[.int .u8 (a.a.fam : Nat), V64 a.a.hi, V64 a.a.lo, S a.owner, V64 a.til, .int .u8 (a.pool.a.fam : Nat), V64 a.pool.a.hi, V64 a.pool.a.lo, .int .i64 a.pool.bits, .bool a.has, .bool a.held, .bool a.live, V64 a.clock, .slice r a.rows.length rc, .slice v a.events.length vc, .slice p a.pools.length pc] ∧ Bx wr (w.heap.size + 1) 62 #[.int .u8 0, .int .u64 0, .int .u64 0, .int .u8 0, .int .u64 0, .int .u64 0, .string ⟨#[]⟩, .int .u64 0, .int .u8 0, .int .u64 0, .int .u64 0, .int .i64 0, .bool false, .bool false, .bool false, .int .u64 0, .slice none 0 0, .slice none 0 0, .slice none 0 0] ∧ Bx wr gO 62 #[.int .u8 (a.a.fam : Nat), V64 a.a.hi, V64 a.a.lo, .int .u8 0, .int .u64 0, .int .u64 0, S a.owner, V64 a.til, .int .u8 (a.pool.a.fam : Nat), V64 a.pool.a.hi, V64 a.pool.a.lo, .int .i64 a.pool.bits, .bool a.has, .bool a.held, .bool a.live, V64 a.clock, .slice a1 (a.rows.take k).length c1, .slice none 0 0, .slice none 0 0] ∧ OwnR 57 5 rwC wr w.heap.size (.slice a1 (a.rows.take k).length c1) (a.rows.take k) ∧ Below w.heap.size w wr) (fun i _ => a.rows.length - (intOf i).toNat)
    case atStart => exact ⟨0, none, 0, Nat.zero_le _, rfl, p3, z3, h3, ownR_nil _ _, hA3⟩
    case round =>
      clear p3 z3 h3 hA3
      obtain ⟨k, a1, c1, hk, rfl, p0, z0, h0, own0, hA0⟩ := hrel
      by_cases hkn : k < a.rows.length
      · have hki : ((k : Nat) : Int) < ((a.rows.length : Nat) : Int) := by omega
        have Hlen := Lib.hid (show (a.rows.take k).length ≤ k from by rw [List.length_take]; omega)
        have Hnx := Lib.hid (show a.rows.take (k + 1) = a.rows.take k ++ [a.rows[k]] from by rw [List.take_add_one, List.getElem?_eq_getElem hkn]; rfl)
        have HK := Lib.hid (show k < a.rows.length ∧ a.rows.length ≤ 100000 from ⟨hkn, rowsL⟩)
        obtain ⟨b, o, hq, hbl, k0, k1, k2, k3, k4⟩ := row_cells hat.rows k hkn
        subst hq
        obtain ⟨iE, e1, e2, e3, e4⟩ := info_parts infoRL3
        generalize a.rows[k] = y at *
        generalize a.rows.take k = L at *
        clear hkn hat
        obtain ⟨⟨q0, q1, q2, q3, q4, q5, q6, q7, q8, q9, q10, q11, q12, q13, q14, q15⟩, -⟩ := p0.cells16
        go_upto_region 5 with fail
        refine wp_region_held_drew (S := (fun wx => Bx wx w.heap.size 36 #[.int .u8 (a.a.fam : Nat), V64 a.a.hi, V64 a.a.lo, S a.owner, V64 a.til, .int .u8 (a.pool.a.fam : Nat), V64 a.pool.a.hi, V64 a.pool.a.lo, .int .i64 a.pool.bits, .bool a.has, .bool a.held, .bool a.live, V64 a.clock, .slice (some ⟨b, o, none⟩) a.rows.length rc, .slice v a.events.length vc, .slice p a.pools.length pc] ∧ Below w.heap.size w wx)) (by kernel_rfl) ⟨p0.drew, hA0.drew⟩ (fun hHeld => ?_)
        refine wpAnyH_take (i := 0) (v := ?_) rfl (by kernel_rfl) (by kernel_rfl) (by kernel_rfl) (fun _ _ _ h => h) (Or.inl ⟨by rfl, ?_⟩) hHeld ?_
        rotate_left
        · intro wq hSw; go_simp; (try with_reducible rfl)
        simp only [Act.put, nrm]
        refine wpAnyH_take (i := 2) (v := ?_) rfl (by kernel_rfl) (by kernel_rfl) (by kernel_rfl) (fun _ _ _ h => h) (Or.inl ⟨by rfl, ?_⟩) hHeld ?_
        rotate_left
        · intro wq hSw; go_simp; (try with_reducible rfl)
        simp only [Act.put, nrm]
        refine wpAnyH_take (i := 3) (v := ?_) rfl (by kernel_rfl) (by kernel_rfl) (by kernel_rfl) (fun _ _ _ h => h) (Or.inl ⟨by rfl, ?_⟩) hHeld ?_
        rotate_left
        · intro wq hSw; obtain ⟨⟨q0, q1, q2, q3, q4, q5, q6, q7, q8, q9, q10, q11, q12, q13, q14, q15⟩, -⟩ := hSw.1.cells16; go_simp; (try with_reducible rfl)
        simp only [Act.put, nrm]
        refine wpAnyH_take (i := 4) (v := ?_) rfl (by kernel_rfl) (by kernel_rfl) (by kernel_rfl) (fun _ _ _ h => h) (Or.inl ⟨by rfl, ?_⟩) hHeld ?_
        rotate_left
        · intro wq hSw; go_simp; (try with_reducible rfl)
        simp only [Act.put, nrm]
        refine wpAnyH_take (i := 5) (v := ?_) rfl (by kernel_rfl) (by kernel_rfl) (by kernel_rfl) (fun _ _ _ h => h) (Or.inl ⟨by rfl, ?_⟩) hHeld ?_
        rotate_left
        · intro wq hSw; go_simp; (try with_reducible rfl)
        simp only [Act.put, nrm]
        refine wpAnyH_take (i := 6) (v := ?_) rfl (by kernel_rfl) (by kernel_rfl) (by kernel_rfl) (fun _ _ _ h => h) (Or.inl ⟨by rfl, ?_⟩) hHeld ?_
        rotate_left
        · intro wq hSw; go_simp; (try with_reducible rfl)
        simp only [Act.put, nrm]
        refine wpAnyH_take (i := 7) (v := ?_) rfl (by kernel_rfl) (by kernel_rfl) (by kernel_rfl) (fun _ _ _ h => h) (Or.inl ⟨by rfl, ?_⟩) hHeld ?_
        rotate_left
        · intro wq hSw; have m0 := (hSw.2.cell (p := ⟨b, o + k * 5, none⟩) hbl).trans k0; have m1 := (hSw.2.cell (p := ⟨b, o + k * 5 + 1, none⟩) hbl).trans k1; have m2 := (hSw.2.cell (p := ⟨b, o + k * 5 + 2, none⟩) hbl).trans k2; go_simp; (try with_reducible rfl)
        simp only [Act.put, nrm]
        refine wpAnyH_take (i := 9) (v := ?_) rfl (by kernel_rfl) (by kernel_rfl) (by kernel_rfl) (fun _ _ _ h => h) (Or.inl ⟨by rfl, ?_⟩) hHeld ?_
        rotate_left
        · intro wq hSw; go_simp; (try with_reducible rfl)
        simp only [Act.put, nrm]
        refine wpAnyH_take (i := 10) (v := ?_) rfl (by kernel_rfl) (by kernel_rfl) (by kernel_rfl) (fun _ _ _ h => h) (Or.inl ⟨by rfl, ?_⟩) hHeld ?_
        rotate_left
        · intro wq hSw; obtain ⟨⟨q0, q1, q2, q3, q4, q5, q6, q7, q8, q9, q10, q11, q12, q13, q14, q15⟩, -⟩ := hSw.1.cells16; go_simp; (try with_reducible rfl)
        simp only [Act.put, nrm]
        refine wpAnyH_take (i := 11) (v := ?_) rfl (by kernel_rfl) (by kernel_rfl) (by kernel_rfl) (fun _ _ _ h => h) (Or.inl ⟨by rfl, ?_⟩) hHeld ?_
        rotate_left
        · intro wq hSw; go_simp; (try with_reducible rfl)
        simp only [Act.put, nrm]
        refine wpAnyH_take (i := 12) (v := ?_) rfl (by kernel_rfl) (by kernel_rfl) (by kernel_rfl) (fun _ _ _ h => h) (Or.inl ⟨by rfl, ?_⟩) hHeld ?_
        rotate_left
        · intro wq hSw; go_simp; (try with_reducible rfl)
        simp only [Act.put, nrm]
        refine wpAnyH_take (i := 13) (v := ?_) rfl (by kernel_rfl) (by kernel_rfl) (by kernel_rfl) (fun _ _ _ h => h) (Or.inl ⟨by rfl, ?_⟩) hHeld ?_
        rotate_left
        · intro wq hSw; go_simp; (try with_reducible rfl)
        simp only [Act.put, nrm]
        refine wpAnyH_take (i := 14) (v := ?_) rfl (by kernel_rfl) (by kernel_rfl) (by kernel_rfl) (fun _ _ _ h => h) (Or.inl ⟨by rfl, ?_⟩) hHeld ?_
        rotate_left
        · intro wq hSw; go_simp; (try with_reducible rfl)
        simp only [Act.put, nrm]
        refine wpAnyH_take (i := 15) (v := ?_) rfl (by kernel_rfl) (by kernel_rfl) (by kernel_rfl) (fun _ _ _ h => h) (Or.inl ⟨by rfl, ?_⟩) hHeld ?_
        rotate_left
        · intro wq hSw; have m3 := (hSw.2.cell (p := ⟨b, o + k * 5 + 3, none⟩) hbl).trans k3; go_simp; (try with_reducible rfl)
        simp only [Act.put, nrm]
        refine wpAnyH_take (i := 16) (v := ?_) rfl (by kernel_rfl) (by kernel_rfl) (by kernel_rfl) (fun _ _ _ h => h) (Or.inl ⟨by rfl, ?_⟩) hHeld ?_
        rotate_left
        · intro wq hSw; go_simp; (try with_reducible rfl)
        simp only [Act.put, nrm]
        refine wpAnyH_take (i := 17) (v := ?_) rfl (by kernel_rfl) (by kernel_rfl) (by kernel_rfl) (fun _ _ _ h => h) (Or.inl ⟨by rfl, ?_⟩) hHeld ?_
        rotate_left
        · intro wq hSw; obtain ⟨⟨q0, q1, q2, q3, q4, q5, q6, q7, q8, q9, q10, q11, q12, q13, q14, q15⟩, -⟩ := hSw.1.cells16; go_simp; (try with_reducible rfl)
        simp only [Act.put, nrm]
        refine wpAnyH_take (i := 18) (v := ?_) rfl (by kernel_rfl) (by kernel_rfl) (by kernel_rfl) (fun _ _ _ h => h) (Or.inl ⟨by rfl, ?_⟩) hHeld ?_
        rotate_left
        · intro wq hSw; go_simp; (try with_reducible rfl)
        simp only [Act.put, nrm]
        refine wpAnyH_take (i := 19) (v := ?_) rfl (by kernel_rfl) (by kernel_rfl) (by kernel_rfl) (fun _ _ _ h => h) (Or.inl ⟨by rfl, ?_⟩) hHeld ?_
        rotate_left
        · intro wq hSw; go_simp; (try with_reducible rfl)
        simp only [Act.put, nrm]
        refine wpAnyH_take (i := 20) (v := ?_) rfl (by kernel_rfl) (by kernel_rfl) (by kernel_rfl) (fun _ _ _ h => h) (Or.inl ⟨by rfl, ?_⟩) hHeld ?_
        rotate_left
        · intro wq hSw; go_simp; (try with_reducible rfl)
        simp only [Act.put, nrm]
        refine wpAnyH_take (i := 21) (v := ?_) rfl (by kernel_rfl) (by kernel_rfl) (by kernel_rfl) (fun _ _ _ h => h) (Or.inl ⟨by rfl, ?_⟩) hHeld ?_
        rotate_left
        · intro wq hSw; go_simp; (try with_reducible rfl)
        simp only [Act.put, nrm]
        refine wpAnyH_take (i := 22) (v := ?_) rfl (by kernel_rfl) (by kernel_rfl) (by kernel_rfl) (fun _ _ _ h => h) (Or.inl ⟨by rfl, ?_⟩) hHeld ?_
        rotate_left
        · intro wq hSw; have m4 := (hSw.2.cell (p := ⟨b, o + k * 5 + 4, none⟩) hbl).trans k4; go_simp; (try with_reducible rfl)
        simp only [Act.put, nrm]
        refine wpAnyH_by2 (ltV1 (.slice a1 L.length c1) (adV y.a) #[.int .u8 (y.a.fam : Nat), V64 y.a.hi, V64 y.a.lo, S y.owner, V64 y.til] wr.heap.size) (fun wx => Below wr.heap.size wr wx) (fun wx wy => Below wx.heap.size wx wy) [(1, some 38), (8, some 45), (23, some 60), (24, some 61)] 3 (fun wx hx => ⟨p0.up hx, Chain.up hA0 hx⟩) rfl (by kernel_rfl) (by kernel_rfl) (by kernel_rfl) (by kernel_rfl) (by kernel_rfl) (by kernel_rfl) (by kernel_rfl) (ltV1_up _ _ _ _) (Below.refl _ _).drew ?_ ?_
        · skip
          refine StepsI.skip (by kernel_rfl) ?_
          refine StepsI.cons (fun vals wx hS hd K hK => ?_) ?_
          · simp only [fillA, Act.put, List.setIfInBounds_toArray, List.set_cons_zero, List.set_cons_succ] at hK ⊢
            have c16 : wx.cell? ⟨gO, 16, none⟩ = some (.slice a1 L.length c1) := (h0.up hS).cell 16
            go_simp
            exact hK.out _ _ rfl hS (Below.refl _ _)
          refine StepsI.skip (by kernel_rfl) ?_
          refine StepsI.skip (by kernel_rfl) ?_
          refine StepsI.skip (by kernel_rfl) ?_
          refine StepsI.skip (by kernel_rfl) ?_
          refine StepsI.skip (by kernel_rfl) ?_
          refine StepsI.skip (by kernel_rfl) ?_
          refine StepsI.cons (fun vals wx hS hd K hK => ?_) ?_
          · simp only [fillA, Act.put, List.setIfInBounds_toArray, List.set_cons_zero, List.set_cons_succ] at hK ⊢
            go_simp
            (with_reducible refine (given19_any y.a _).mono ?_)
            rintro e w5 ⟨rfl, hb5⟩
            exact hK.out _ _ rfl (Chain.up hS hb5) hb5
          refine StepsI.skip (by kernel_rfl) ?_
          refine StepsI.skip (by kernel_rfl) ?_
          refine StepsI.skip (by kernel_rfl) ?_
          refine StepsI.skip (by kernel_rfl) ?_
          refine StepsI.skip (by kernel_rfl) ?_
          refine StepsI.skip (by kernel_rfl) ?_
          refine StepsI.skip (by kernel_rfl) ?_
          refine StepsI.skip (by kernel_rfl) ?_
          refine StepsI.skip (by kernel_rfl) ?_
          refine StepsI.skip (by kernel_rfl) ?_
          refine StepsI.skip (by kernel_rfl) ?_
          refine StepsI.skip (by kernel_rfl) ?_
          refine StepsI.skip (by kernel_rfl) ?_
          refine StepsI.skip (by kernel_rfl) ?_
          refine StepsI.cons (fun vals wx hS hd K hK => ?_) ?_
          · simp only [fillA, Act.put, List.setIfInBounds_toArray, List.set_cons_zero, List.set_cons_succ] at hK ⊢
            have hv8 : vals 8 = (adV y.a) := hd 8 (some 45) (by decide) (by kernel_rfl)
            simp only [hv8] at hK ⊢
            go_simp
            exact hK.out _ _ rfl hS (Below.refl _ _)
          refine StepsI.cons (fun vals wx hS hd K hK => ?_) ?_
          · simp only [fillA, Act.put, List.setIfInBounds_toArray, List.set_cons_zero, List.set_cons_succ] at hK ⊢
            have hv9 : vals 23 = .agg #[.int .u8 (y.a.fam : Nat), V64 y.a.hi, V64 y.a.lo, S y.owner, V64 y.til] := hd 23 (some 60) (by decide) (by kernel_rfl)
            simp only [hv9] at hK ⊢
            go_simp
            exact hK.out _ _ ⟨_, rfl, hS.size, Bx.fresh _ _ _⟩ (hS.alloc hS.size _) ((Below.refl _ _).alloc (Nat.le_refl _) _)
          refine StepsI.skip (by kernel_rfl) ?_
          refine StepsI.skip (by kernel_rfl) ?_
          refine StepsI.skip (by kernel_rfl) ?_
          exact StepsI.nil
        · intro vals wx hS hR
          have v1 : vals 1 = .slice a1 L.length c1 := hR (1, some 38) (by decide)
          have v8 : vals 8 = (adV y.a) := hR (8, some 45) (by decide)
          have v23 : vals 23 = .agg #[.int .u8 (y.a.fam : Nat), V64 y.a.hi, V64 y.a.lo, S y.owner, V64 y.til] := hR (23, some 60) (by decide)
          obtain ⟨gs, hgs, hgB, hbt⟩ : ∃ g, vals 24 = .slice (some ⟨g, 0, none⟩) 1 1 ∧ wr.heap.size ≤ g ∧ Bx wx g 57 #[.int .u8 (y.a.fam : Nat), V64 y.a.hi, V64 y.a.lo, S y.owner, V64 y.til] := hR (24, some 61) (by decide)
          simp only [fillA, Act.put, List.setIfInBounds_toArray, List.set_cons_zero, List.set_cons_succ, v1, v8, v23, hgs]
          clear hR v1 v8 v23 hgs vals
          have hN := h0.up hS
          have zN := z0.up hS
          have gN := p0.up hS
          have ownN := own0.up hS
          have hAN := Chain.up hA0 hS
          refine wpAnyH_one (i := 25) (by kernel_rfl) rfl (fun K hK => ?_)
          simp only [nrm]
          rw [if_pos (by rfl)]
          refine wp_appR _ _ _ (by rfl) iE _ _ Tryd.underlying58 e1 e2 e3 e4 rfl (by decide) rwC_len rwC_one [y] (by rfl) ownN (by have := Hlen.out; have := HK.out; simp only [List.length_singleton]; omega) (by decide) _ _ _ (by rfl) (by rfl) (rows_boxQ rwC_len _ hbt (by rfl)) hAN.size ?_
          intro v9 w9 hown9 hb9 hkt9
          obtain ⟨a9, c9, hv9, -, -⟩ := hown9.is rwC_len
          rw [List.length_append, List.length_singleton] at hv9
          subst hv9
          have h9 : Bx w9 gO 62 #[.int .u8 (a.a.fam : Nat), V64 a.a.hi, V64 a.a.lo, .int .u8 0, .int .u64 0, .int .u64 0, S a.owner, V64 a.til, .int .u8 (a.pool.a.fam : Nat), V64 a.pool.a.hi, V64 a.pool.a.lo, .int .i64 a.pool.bits, .bool a.has, .bool a.held, .bool a.live, V64 a.clock, .slice a1 L.length c1, .slice none 0 0, .slice none 0 0] := hkt9 _ _ _ _ (by decide) hN
          have z9 : Bx w9 (w.heap.size + 1) 62 #[.int .u8 0, .int .u64 0, .int .u64 0, .int .u8 0, .int .u64 0, .int .u64 0, .string ⟨#[]⟩, .int .u64 0, .int .u8 0, .int .u64 0, .int .u64 0, .int .i64 0, .bool false, .bool false, .bool false, .int .u64 0, .slice none 0 0, .slice none 0 0, .slice none 0 0] := hkt9 _ _ _ _ (by decide) zN
          have g9 : Bx w9 w.heap.size 36 #[.int .u8 (a.a.fam : Nat), V64 a.a.hi, V64 a.a.lo, S a.owner, V64 a.til, .int .u8 (a.pool.a.fam : Nat), V64 a.pool.a.hi, V64 a.pool.a.lo, .int .i64 a.pool.bits, .bool a.has, .bool a.held, .bool a.live, V64 a.clock, .slice (some ⟨b, o, none⟩) a.rows.length rc, .slice v a.events.length vc, .slice p a.pools.length pc] := hkt9 _ _ _ _ (by decide) gN
          have hA9 := hAN.trans hb9
          have hS9 := And.intro g9 hA9
          refine hK.out _ _ hS9 ?_
          simp only [Act.put, nrm]
          clear hK K
          refine wpAnyH_take (i := 26) (v := ?_) rfl (by kernel_rfl) (by kernel_rfl) (by kernel_rfl) (fun _ _ _ h => h) (Or.inl ⟨by rfl, ?_⟩) hS9 ?_
          rotate_left
          · intro wq hSw; go_simp; (try with_reducible rfl)
          simp only [Act.put, nrm]
          refine wpAnyH_one (i := 27) (by kernel_rfl) rfl (fun K hK => ?_)
          simp only [nrm]
          rw [if_pos (by rfl)]
          refine wp_stV _ _ _ (by rfl) h9 16 _ (by rfl) (by rfl) (by rfl) (by rfl) 19 (by rfl) (by decide) infoSLD (by rfl) ?_
          intro w10 hz' hb10
          have h10 : Bx w10 gO 62 #[.int .u8 (a.a.fam : Nat), V64 a.a.hi, V64 a.a.lo, .int .u8 0, .int .u64 0, .int .u64 0, S a.owner, V64 a.til, .int .u8 (a.pool.a.fam : Nat), V64 a.pool.a.hi, V64 a.pool.a.lo, .int .i64 a.pool.bits, .bool a.has, .bool a.held, .bool a.live, V64 a.clock, .slice a9 (L.length + 1) c9, .slice none 0 0, .slice none 0 0] := hz'
          have z10 := z9.but hb10 (by omega)
          have g10 := g9.but hb10 (by omega)
          have own10 := hown9.but h9 (by decide) hb10
          have hA10 := hA9.trans (hb10.below (by omega) hA9.size)
          have hS10 := And.intro g10 hA10
          refine hK.out _ _ hS10 ?_
          simp only [Act.put, nrm]
          clear hK K
          refine wpAnyH_done (by kernel_rfl) ?_ _
          go_wp2_with fail
          go_roundw
          case rel => exact ⟨k + 1, a9, c9, HK.out.1, by go_num, g10, z10, by rw [Hnx.out, List.length_append, List.length_singleton]; exact h10, by rw [Hnx.out, List.length_append, List.length_singleton]; exact own10, hA10⟩
          case measure => simp [intOf]; have := HK.out; omega
      · have hke : k = a.rows.length := by omega
        rw [show a.rows.take k = a.rows by rw [hke, List.take_length]] at h0 own0
        have hge : ¬ ((k : Nat) : Int) < ((a.rows.length : Nat) : Int) := by omega
        clear hkn hk
        obtain ⟨aR, hq1⟩ : ∃ x, x = a1 := ⟨_, rfl⟩
        obtain ⟨cR, hq2⟩ : ∃ x, x = c1 := ⟨_, rfl⟩
        subst hq1 hq2
        have oR0 := own0
        have p1 := p0
        have z1 := z0
        have h1 := h0
        have hA1 := hA0
        generalize hwr : wr = w1 at *
        clear own0 p0 z0 h0 hA0 hwr
        obtain ⟨⟨q0, q1, q2, q3, q4, q5, q6, q7, q8, q9, q10, q11, q12, q13, q14, q15⟩, -⟩ := p1.cells16
        go_wp2_with fail
        go_loopw [5, 6] (fun i x wr => ∃ (k : Nat) (a1 : Option Addr) (c1 : Nat), k ≤ a.events.length ∧ i = .int .i64 ((k : Nat) : Int) ∧ Bx wr w.heap.size 36 #[.int .u8 (a.a.fam : Nat), V64 a.a.hi, V64 a.a.lo, S a.owner, V64 a.til, .int .u8 (a.pool.a.fam : Nat), V64 a.pool.a.hi, V64 a.pool.a.lo, .int .i64 a.pool.bits, .bool a.has, .bool a.held, .bool a.live, V64 a.clock, .slice r a.rows.length rc, .slice v a.events.length vc, .slice p a.pools.length pc] ∧ Bx wr (w.heap.size + 1) 62 #[.int .u8 0, .int .u64 0, .int .u64 0, .int .u8 0, .int .u64 0, .int .u64 0, .string ⟨#[]⟩, .int .u64 0, .int .u8 0, .int .u64 0, .int .u64 0, .int .i64 0, .bool false, .bool false, .bool false, .int .u64 0, .slice none 0 0, .slice none 0 0, .slice none 0 0] ∧ Bx wr gO 62 #[.int .u8 (a.a.fam : Nat), V64 a.a.hi, V64 a.a.lo, .int .u8 0, .int .u64 0, .int .u64 0, S a.owner, V64 a.til, .int .u8 (a.pool.a.fam : Nat), V64 a.pool.a.hi, V64 a.pool.a.lo, .int .i64 a.pool.bits, .bool a.has, .bool a.held, .bool a.live, V64 a.clock, .slice aR a.rows.length cR, .slice a1 (a.events.take k).length c1, .slice none 0 0] ∧ OwnR 126 7 evD wr w.heap.size (.slice a1 (a.events.take k).length c1) (a.events.take k) ∧ OwnR 57 5 rwC wr w.heap.size (.slice aR a.rows.length cR) a.rows ∧ Below w.heap.size w wr) (fun i _ _ => a.events.length - (intOf i).toNat)
        case atStart => exact ⟨0, none, 0, Nat.zero_le _, rfl, p1, z1, h1, ownR_nil _ _, oR0, hA1⟩
        case round =>
          clear p1 z1 h1 hA1 oR0 hge q0 q1 q2 q3 q4 q5 q6 q7 q8 q9 q10 q11 q12 q13 q14 q15
          obtain ⟨k, a1, c1, hk, rfl, p0, z0, h0, own0, oR0, hA0⟩ := hrel
          by_cases hkn : k < a.events.length
          · have hki : ((k : Nat) : Int) < ((a.events.length : Nat) : Int) := by omega
            have Hlen := Lib.hid (show (a.events.take k).length ≤ k from by rw [List.length_take]; omega)
            have Hnx := Lib.hid (show a.events.take (k + 1) = a.events.take k ++ [a.events[k]] from by rw [List.take_add_one, List.getElem?_eq_getElem hkn]; rfl)
            have HK := Lib.hid (show k < a.events.length ∧ a.events.length ≤ 100000 from ⟨hkn, eventsL⟩)
            obtain ⟨b, o, hq, hbl, k0, k1, k2, k3⟩ := evp_cells hat.events k hkn
            subst hq
            obtain ⟨iE, e1, e2, e3, e4⟩ := info_parts infoRE3
            generalize a.events[k] = y at *
            generalize a.events.take k = L at *
            clear hkn hat
            have m0 := (hA0.cell (p := ⟨b, o + k * 4, none⟩) hbl).trans k0
            have m1 := (hA0.cell (p := ⟨b, o + k * 4 + 1, none⟩) hbl).trans k1
            have m2 := (hA0.cell (p := ⟨b, o + k * 4 + 2, none⟩) hbl).trans k2
            have m3 := (hA0.cell (p := ⟨b, o + k * 4 + 3, none⟩) hbl).trans k3
            have lp1 := Bx.fresh wr 82 #[.int .i64 0, .string ⟨#[]⟩, .int .u64 0, .int .u64 0]
            have hR1 := (Below.refl wr.heap.size wr).alloc (Nat.le_refl _) (.cells #[.int .i64 0, .string ⟨#[]⟩, .int .u64 0, .int .u64 0] 82)
            obtain ⟨⟨q0, q1, q2, q3, q4, q5, q6, q7, q8, q9, q10, q11, q12, q13, q14, q15⟩, -⟩ := p0.cells16
            go_wp2_with (first
              | (refine wpList_stB (by rfl) _ _ _ (by rfl) lp1 0 _ (by rfl) (by rfl) 4 4 (by rfl) (by rfl) (by decide) infoEvS (by rfl) (by rfl) ?_; intro w2 hz' hb2; have lp2 : Bx w2 wr.heap.size 82 #[.int .i64 y.how, S y.owner, V64 y.at', V64 y.til] := hz'; clear hz'; have hS := hR1.trans (hb2.below (Nat.le_refl _) hR1.size); have hN := h0.up hS; have zN := z0.up hS; have gN := p0.up hS; have ownN := own0.up hS; have oRN := oR0.up hS; have hAN := Chain.up hA0 hS; have n0 : w2.cell? ⟨wr.heap.size, 0, none⟩ = some (.int .i64 y.how) := lp2.cell 0; have n1 : w2.cell? ⟨wr.heap.size, 1, none⟩ = some (S y.owner) := lp2.cell 1; have n2 : w2.cell? ⟨wr.heap.size, 2, none⟩ = some (V64 y.at') := lp2.cell 2; have n3 : w2.cell? ⟨wr.heap.size, 3, none⟩ = some (V64 y.til) := lp2.cell 3; have c17 : w2.cell? ⟨gO, 17, none⟩ = some (.slice a1 L.length c1) := hN.cell 17)
              | (at_builtin; (refine wpList_appR (by rfl) _ _ _ (by rfl) iE _ _ Tryd.underlying59 e1 e2 e3 e4 rfl (by decide) evD_len evD_one [y] (by rfl) (ownN.alloc (.cells #[.int .u8 0, .int .u64 0, .int .u64 0, .int .i64 y.how, S y.owner, V64 y.at', V64 y.til] 126)) (by have := Hlen.out; have := HK.out; simp only [List.length_singleton]; omega) (by decide) _ _ _ (by rfl) (by rfl) (rows_new 7 evD evD_len w2 [y] #[.int .u8 0, .int .u64 0, .int .u64 0, .int .i64 y.how, S y.owner, V64 y.at', V64 y.til] 126 rfl) (by have := hAN.size; simp only [World.size_alloc]; omega) ?_); intro v9 w9 hown9 hb9 hkt9; obtain ⟨a9, c9, hv9, -, -⟩ := hown9.is evD_len; (rw [List.length_append, List.length_singleton] at hv9); subst hv9; have h9 : Bx w9 gO 62 #[.int .u8 (a.a.fam : Nat), V64 a.a.hi, V64 a.a.lo, .int .u8 0, .int .u64 0, .int .u64 0, S a.owner, V64 a.til, .int .u8 (a.pool.a.fam : Nat), V64 a.pool.a.hi, V64 a.pool.a.lo, .int .i64 a.pool.bits, .bool a.has, .bool a.held, .bool a.live, V64 a.clock, .slice aR a.rows.length cR, .slice a1 L.length c1, .slice none 0 0] := hkt9 _ _ _ _ (by decide) (hN.alloc (.cells #[.int .u8 0, .int .u64 0, .int .u64 0, .int .i64 y.how, S y.owner, V64 y.at', V64 y.til] 126)); have z9 : Bx w9 (w.heap.size + 1) 62 #[.int .u8 0, .int .u64 0, .int .u64 0, .int .u8 0, .int .u64 0, .int .u64 0, .string ⟨#[]⟩, .int .u64 0, .int .u8 0, .int .u64 0, .int .u64 0, .int .i64 0, .bool false, .bool false, .bool false, .int .u64 0, .slice none 0 0, .slice none 0 0, .slice none 0 0] := hkt9 _ _ _ _ (by decide) (zN.alloc (.cells #[.int .u8 0, .int .u64 0, .int .u64 0, .int .i64 y.how, S y.owner, V64 y.at', V64 y.til] 126)); have g9 : Bx w9 w.heap.size 36 #[.int .u8 (a.a.fam : Nat), V64 a.a.hi, V64 a.a.lo, S a.owner, V64 a.til, .int .u8 (a.pool.a.fam : Nat), V64 a.pool.a.hi, V64 a.pool.a.lo, .int .i64 a.pool.bits, .bool a.has, .bool a.held, .bool a.live, V64 a.clock, .slice r a.rows.length rc, .slice (some ⟨b, o, none⟩) a.events.length vc, .slice p a.pools.length pc] := hkt9 _ _ _ _ (by decide) (gN.alloc (.cells #[.int .u8 0, .int .u64 0, .int .u64 0, .int .i64 y.how, S y.owner, V64 y.at', V64 y.til] 126)); have hA9 := (hAN.alloc hAN.size (.cells #[.int .u8 0, .int .u64 0, .int .u64 0, .int .i64 y.how, S y.owner, V64 y.at', V64 y.til] 126)).trans hb9; have oR9 := (oRN.alloc (.cells #[.int .u8 0, .int .u64 0, .int .u64 0, .int .i64 y.how, S y.owner, V64 y.at', V64 y.til] 126)).keptT hkt9 (by decide); clear hkt9)
              | (refine wpList_stV (by rfl) _ _ _ (by rfl) h9 17 _ (by rfl) (by rfl) (by rfl) (by rfl) 19 (by rfl) (by decide) infoSED (by rfl) ?_; intro w10 hz' hb10; have h10 : Bx w10 gO 62 #[.int .u8 (a.a.fam : Nat), V64 a.a.hi, V64 a.a.lo, .int .u8 0, .int .u64 0, .int .u64 0, S a.owner, V64 a.til, .int .u8 (a.pool.a.fam : Nat), V64 a.pool.a.hi, V64 a.pool.a.lo, .int .i64 a.pool.bits, .bool a.has, .bool a.held, .bool a.live, V64 a.clock, .slice aR a.rows.length cR, .slice a9 (L.length + 1) c9, .slice none 0 0] := hz'; clear hz'; have z10 := z9.but hb10 (by omega); have g10 := g9.but hb10 (by omega); have own10 := hown9.but h9 (by decide) hb10; have oR10 := oR9.but h9 (by decide) hb10; have hA10 := hA9.trans (hb10.below (by omega) hA9.size)))
            go_roundw
            case rel => exact ⟨k + 1, a9, c9, HK.out.1, by go_num, g10, z10, by rw [Hnx.out, List.length_append, List.length_singleton]; exact h10, by rw [Hnx.out, List.length_append, List.length_singleton]; exact own10, oR10, hA10⟩
            case measure => simp [intOf]; have := HK.out; omega
          · have hke : k = a.events.length := by omega
            rw [show a.events.take k = a.events by rw [hke, List.take_length]] at h0 own0
            have hge : ¬ ((k : Nat) : Int) < ((a.events.length : Nat) : Int) := by omega
            clear hkn hk
            obtain ⟨aE, hq1⟩ : ∃ x, x = a1 := ⟨_, rfl⟩
            obtain ⟨cE, hq2⟩ : ∃ x, x = c1 := ⟨_, rfl⟩
            subst hq1 hq2
            have oE0 := own0
            have p1 := p0
            have z1 := z0
            have h1 := h0
            have hA1 := hA0
            generalize hwr : wr = w1 at *
            clear own0 p0 z0 h0 hA0 hwr
            obtain ⟨⟨q0, q1, q2, q3, q4, q5, q6, q7, q8, q9, q10, q11, q12, q13, q14, q15⟩, -⟩ := p1.cells16
            go_wp2_with fail
            go_loopw [7] (fun i wr => ∃ (k : Nat) (a1 : Option Addr) (c1 : Nat), k ≤ a.pools.length ∧ i = .int .i64 ((k : Nat) : Int) ∧ Bx wr w.heap.size 36 #[.int .u8 (a.a.fam : Nat), V64 a.a.hi, V64 a.a.lo, S a.owner, V64 a.til, .int .u8 (a.pool.a.fam : Nat), V64 a.pool.a.hi, V64 a.pool.a.lo, .int .i64 a.pool.bits, .bool a.has, .bool a.held, .bool a.live, V64 a.clock, .slice r a.rows.length rc, .slice v a.events.length vc, .slice p a.pools.length pc] ∧ Bx wr (w.heap.size + 1) 62 #[.int .u8 0, .int .u64 0, .int .u64 0, .int .u8 0, .int .u64 0, .int .u64 0, .string ⟨#[]⟩, .int .u64 0, .int .u8 0, .int .u64 0, .int .u64 0, .int .i64 0, .bool false, .bool false, .bool false, .int .u64 0, .slice none 0 0, .slice none 0 0, .slice none 0 0] ∧ Bx wr gO 62 #[.int .u8 (a.a.fam : Nat), V64 a.a.hi, V64 a.a.lo, .int .u8 0, .int .u64 0, .int .u64 0, S a.owner, V64 a.til, .int .u8 (a.pool.a.fam : Nat), V64 a.pool.a.hi, V64 a.pool.a.lo, .int .i64 a.pool.bits, .bool a.has, .bool a.held, .bool a.live, V64 a.clock, .slice aR a.rows.length cR, .slice aE a.events.length cE, .slice a1 (a.pools.take k).length c1] ∧ OwnR 44 4 pxC wr w.heap.size (.slice a1 (a.pools.take k).length c1) (a.pools.take k) ∧ OwnR 57 5 rwC wr w.heap.size (.slice aR a.rows.length cR) a.rows ∧ OwnR 126 7 evD wr w.heap.size (.slice aE a.events.length cE) a.events ∧ Below w.heap.size w wr) (fun i _ => a.pools.length - (intOf i).toNat)
            case atStart => exact ⟨0, none, 0, Nat.zero_le _, rfl, p1, z1, h1, ownR_nil _ _, oR0, oE0, hA1⟩
            case round =>
              clear p1 z1 h1 hA1 oR0 oE0 hge q0 q1 q2 q3 q4 q5 q6 q7 q8 q9 q10 q11 q12 q13 q14 q15
              obtain ⟨k, a1, c1, hk, rfl, p0, z0, h0, own0, oR0, oE0, hA0⟩ := hrel
              by_cases hkn : k < a.pools.length
              · have hki : ((k : Nat) : Int) < ((a.pools.length : Nat) : Int) := by omega
                have Hlen := Lib.hid (show (a.pools.take k).length ≤ k from by rw [List.length_take]; omega)
                have Hnx := Lib.hid (show a.pools.take (k + 1) = a.pools.take k ++ [a.pools[k]] from by rw [List.take_add_one, List.getElem?_eq_getElem hkn]; rfl)
                have HK := Lib.hid (show k < a.pools.length ∧ a.pools.length ≤ 100000 from ⟨hkn, poolsL⟩)
                obtain ⟨b, o, hq, hbl, k0, k1, k2, k3⟩ := pool_cells hat.pools k hkn
                subst hq
                obtain ⟨iE, e1, e2, e3, e4⟩ := info_parts infoRX3
                generalize a.pools[k] = y at *
                generalize a.pools.take k = L at *
                clear hkn hat
                obtain ⟨⟨q0, q1, q2, q3, q4, q5, q6, q7, q8, q9, q10, q11, q12, q13, q14, q15⟩, -⟩ := p0.cells16
                go_upto_region 14 with fail
                refine wp_region_held_drew (S := (fun wx => Bx wx w.heap.size 36 #[.int .u8 (a.a.fam : Nat), V64 a.a.hi, V64 a.a.lo, S a.owner, V64 a.til, .int .u8 (a.pool.a.fam : Nat), V64 a.pool.a.hi, V64 a.pool.a.lo, .int .i64 a.pool.bits, .bool a.has, .bool a.held, .bool a.live, V64 a.clock, .slice r a.rows.length rc, .slice v a.events.length vc, .slice (some ⟨b, o, none⟩) a.pools.length pc] ∧ Below w.heap.size w wx)) (by kernel_rfl) ⟨p0.drew, hA0.drew⟩ (fun hHeld => ?_)
                refine wpAnyH_take (i := 0) (v := ?_) rfl (by kernel_rfl) (by kernel_rfl) (by kernel_rfl) (fun _ _ _ h => h) (Or.inl ⟨by rfl, ?_⟩) hHeld ?_
                rotate_left
                · intro wq hSw; go_simp; (try with_reducible rfl)
                simp only [Act.put, nrm]
                refine wpAnyH_take (i := 2) (v := ?_) rfl (by kernel_rfl) (by kernel_rfl) (by kernel_rfl) (fun _ _ _ h => h) (Or.inl ⟨by rfl, ?_⟩) hHeld ?_
                rotate_left
                · intro wq hSw; go_simp; (try with_reducible rfl)
                simp only [Act.put, nrm]
                refine wpAnyH_take (i := 3) (v := ?_) rfl (by kernel_rfl) (by kernel_rfl) (by kernel_rfl) (fun _ _ _ h => h) (Or.inl ⟨by rfl, ?_⟩) hHeld ?_
                rotate_left
                · intro wq hSw; obtain ⟨⟨q0, q1, q2, q3, q4, q5, q6, q7, q8, q9, q10, q11, q12, q13, q14, q15⟩, -⟩ := hSw.1.cells16; go_simp; (try with_reducible rfl)
                simp only [Act.put, nrm]
                refine wpAnyH_take (i := 4) (v := ?_) rfl (by kernel_rfl) (by kernel_rfl) (by kernel_rfl) (fun _ _ _ h => h) (Or.inl ⟨by rfl, ?_⟩) hHeld ?_
                rotate_left
                · intro wq hSw; go_simp; (try with_reducible rfl)
                simp only [Act.put, nrm]
                refine wpAnyH_take (i := 5) (v := ?_) rfl (by kernel_rfl) (by kernel_rfl) (by kernel_rfl) (fun _ _ _ h => h) (Or.inl ⟨by rfl, ?_⟩) hHeld ?_
                rotate_left
                · intro wq hSw; go_simp; (try with_reducible rfl)
                simp only [Act.put, nrm]
                refine wpAnyH_take (i := 6) (v := ?_) rfl (by kernel_rfl) (by kernel_rfl) (by kernel_rfl) (fun _ _ _ h => h) (Or.inl ⟨by rfl, ?_⟩) hHeld ?_
                rotate_left
                · intro wq hSw; have m0 := (hSw.2.cell (p := ⟨b, o + k * 4, none⟩) hbl).trans k0; have m1 := (hSw.2.cell (p := ⟨b, o + k * 4 + 1, none⟩) hbl).trans k1; have m2 := (hSw.2.cell (p := ⟨b, o + k * 4 + 2, none⟩) hbl).trans k2; have m3 := (hSw.2.cell (p := ⟨b, o + k * 4 + 3, none⟩) hbl).trans k3; go_simp; (try with_reducible rfl)
                simp only [Act.put, nrm]
                refine wpAnyH_by2 (ltV3 (.slice a1 L.length c1) (pxV y) #[.int .u8 (y.a.fam : Nat), V64 y.a.hi, V64 y.a.lo, .int .i64 y.bits] wr.heap.size) (fun wx => Below wr.heap.size wr wx) (fun wx wy => Below wx.heap.size wx wy) [(1, some 98), (7, some 104), (8, some 105)] 3 (fun wx hx => ⟨p0.up hx, Chain.up hA0 hx⟩) rfl (by kernel_rfl) (by kernel_rfl) (by kernel_rfl) (by kernel_rfl) (by kernel_rfl) (by kernel_rfl) (by kernel_rfl) (ltV3_up _ _ _ _) (Below.refl _ _).drew ?_ ?_
                · skip
                  refine StepsI.skip (by kernel_rfl) ?_
                  refine StepsI.cons (fun vals wx hS hd K hK => ?_) ?_
                  · simp only [fillA, Act.put, List.setIfInBounds_toArray, List.set_cons_zero, List.set_cons_succ] at hK ⊢
                    have c16 : wx.cell? ⟨gO, 18, none⟩ = some (.slice a1 L.length c1) := (h0.up hS).cell 18
                    go_simp
                    exact hK.out _ _ rfl hS (Below.refl _ _)
                  refine StepsI.skip (by kernel_rfl) ?_
                  refine StepsI.skip (by kernel_rfl) ?_
                  refine StepsI.skip (by kernel_rfl) ?_
                  refine StepsI.skip (by kernel_rfl) ?_
                  refine StepsI.skip (by kernel_rfl) ?_
                  refine StepsI.cons (fun vals wx hS hd K hK => ?_) ?_
                  · simp only [fillA, Act.put, List.setIfInBounds_toArray, List.set_cons_zero, List.set_cons_succ] at hK ⊢
                    go_simp
                    (with_reducible refine (given20_any y _).mono ?_)
                    rintro e w5 ⟨rfl, hb5⟩
                    exact hK.out _ _ rfl (Chain.up hS hb5) hb5
                  refine StepsI.cons (fun vals wx hS hd K hK => ?_) ?_
                  · simp only [fillA, Act.put, List.setIfInBounds_toArray, List.set_cons_zero, List.set_cons_succ] at hK ⊢
                    have hv9 : vals 7 = (pxV y) := hd 7 (some 104) (by decide) (by kernel_rfl)
                    simp only [hv9] at hK ⊢
                    go_simp
                    exact hK.out _ _ ⟨_, rfl, hS.size, Bx.fresh _ _ _⟩ (hS.alloc hS.size _) ((Below.refl _ _).alloc (Nat.le_refl _) _)
                  refine StepsI.skip (by kernel_rfl) ?_
                  refine StepsI.skip (by kernel_rfl) ?_
                  refine StepsI.skip (by kernel_rfl) ?_
                  exact StepsI.nil
                · intro vals wx hS hR
                  have v1 : vals 1 = .slice a1 L.length c1 := hR (1, some 98) (by decide)
                  have v8 : vals 7 = (pxV y) := hR (7, some 104) (by decide)
                  obtain ⟨gs, hgs, hgB, hbt⟩ : ∃ g, vals 8 = .slice (some ⟨g, 0, none⟩) 1 1 ∧ wr.heap.size ≤ g ∧ Bx wx g 44 #[.int .u8 (y.a.fam : Nat), V64 y.a.hi, V64 y.a.lo, .int .i64 y.bits] := hR (8, some 105) (by decide)
                  simp only [fillA, Act.put, List.setIfInBounds_toArray, List.set_cons_zero, List.set_cons_succ, v1, v8, hgs]
                  clear hR v1 v8 hgs vals
                  have hN := h0.up hS
                  have zN := z0.up hS
                  have gN := p0.up hS
                  have ownN := own0.up hS
                  have oRN := oR0.up hS
                  have oEN := oE0.up hS
                  have hAN := Chain.up hA0 hS
                  refine wpAnyH_one (i := 9) (by kernel_rfl) rfl (fun K hK => ?_)
                  simp only [nrm]
                  rw [if_pos (by rfl)]
                  refine wp_appR _ _ _ (by rfl) iE _ _ Tryd.underlying60 e1 e2 e3 e4 rfl (by decide) pxC_len pxC_one [y] (by rfl) ownN (by have := Hlen.out; have := HK.out; simp only [List.length_singleton]; omega) (by decide) _ _ _ (by rfl) (by rfl) (rows_boxQ pxC_len _ hbt (by rfl)) hAN.size ?_
                  intro v9 w9 hown9 hb9 hkt9
                  obtain ⟨a9, c9, hv9, -, -⟩ := hown9.is pxC_len
                  rw [List.length_append, List.length_singleton] at hv9
                  subst hv9
                  have h9 : Bx w9 gO 62 #[.int .u8 (a.a.fam : Nat), V64 a.a.hi, V64 a.a.lo, .int .u8 0, .int .u64 0, .int .u64 0, S a.owner, V64 a.til, .int .u8 (a.pool.a.fam : Nat), V64 a.pool.a.hi, V64 a.pool.a.lo, .int .i64 a.pool.bits, .bool a.has, .bool a.held, .bool a.live, V64 a.clock, .slice aR a.rows.length cR, .slice aE a.events.length cE, .slice a1 L.length c1] := hkt9 _ _ _ _ (by decide) hN
                  have z9 : Bx w9 (w.heap.size + 1) 62 #[.int .u8 0, .int .u64 0, .int .u64 0, .int .u8 0, .int .u64 0, .int .u64 0, .string ⟨#[]⟩, .int .u64 0, .int .u8 0, .int .u64 0, .int .u64 0, .int .i64 0, .bool false, .bool false, .bool false, .int .u64 0, .slice none 0 0, .slice none 0 0, .slice none 0 0] := hkt9 _ _ _ _ (by decide) zN
                  have g9 : Bx w9 w.heap.size 36 #[.int .u8 (a.a.fam : Nat), V64 a.a.hi, V64 a.a.lo, S a.owner, V64 a.til, .int .u8 (a.pool.a.fam : Nat), V64 a.pool.a.hi, V64 a.pool.a.lo, .int .i64 a.pool.bits, .bool a.has, .bool a.held, .bool a.live, V64 a.clock, .slice r a.rows.length rc, .slice v a.events.length vc, .slice (some ⟨b, o, none⟩) a.pools.length pc] := hkt9 _ _ _ _ (by decide) gN
                  have hA9 := hAN.trans hb9
                  have oR9 := oRN.keptT hkt9 (by decide)
                  have oE9 := oEN.keptT hkt9 (by decide)
                  have hS9 := And.intro g9 hA9
                  refine hK.out _ _ hS9 ?_
                  simp only [Act.put, nrm]
                  clear hK K
                  refine wpAnyH_take (i := 10) (v := ?_) rfl (by kernel_rfl) (by kernel_rfl) (by kernel_rfl) (fun _ _ _ h => h) (Or.inl ⟨by rfl, ?_⟩) hS9 ?_
                  rotate_left
                  · intro wq hSw; go_simp; (try with_reducible rfl)
                  simp only [Act.put, nrm]
                  refine wpAnyH_one (i := 11) (by kernel_rfl) rfl (fun K hK => ?_)
                  simp only [nrm]
                  rw [if_pos (by rfl)]
                  refine wp_stV _ _ _ (by rfl) h9 18 _ (by rfl) (by rfl) (by rfl) (by rfl) 19 (by rfl) (by decide) infoSXD (by rfl) ?_
                  intro w10 hz' hb10
                  have h10 : Bx w10 gO 62 #[.int .u8 (a.a.fam : Nat), V64 a.a.hi, V64 a.a.lo, .int .u8 0, .int .u64 0, .int .u64 0, S a.owner, V64 a.til, .int .u8 (a.pool.a.fam : Nat), V64 a.pool.a.hi, V64 a.pool.a.lo, .int .i64 a.pool.bits, .bool a.has, .bool a.held, .bool a.live, V64 a.clock, .slice aR a.rows.length cR, .slice aE a.events.length cE, .slice a9 (L.length + 1) c9] := hz'
                  have z10 := z9.but hb10 (by omega)
                  have g10 := g9.but hb10 (by omega)
                  have own10 := hown9.but h9 (by decide) hb10
                  have hA10 := hA9.trans (hb10.below (by omega) hA9.size)
                  have oR10 := oR9.but h9 (by decide) hb10
                  have oE10 := oE9.but h9 (by decide) hb10
                  have hS10 := And.intro g10 hA10
                  refine hK.out _ _ hS10 ?_
                  simp only [Act.put, nrm]
                  clear hK K
                  refine wpAnyH_done (by kernel_rfl) ?_ _
                  go_wp2_with fail
                  go_roundw
                  case rel => exact ⟨k + 1, a9, c9, HK.out.1, by go_num, g10, z10, by rw [Hnx.out, List.length_append, List.length_singleton]; exact h10, by rw [Hnx.out, List.length_append, List.length_singleton]; exact own10, oR10, oE10, hA10⟩
                  case measure => simp [intOf]; have := HK.out; omega
              · have hke : k = a.pools.length := by omega
                rw [show a.pools.take k = a.pools by rw [hke, List.take_length]] at h0 own0
                have hge : ¬ ((k : Nat) : Int) < ((a.pools.length : Nat) : Int) := by omega
                clear hkn hk
                obtain ⟨aP, hq1⟩ : ∃ x, x = a1 := ⟨_, rfl⟩
                obtain ⟨cP, hq2⟩ : ∃ x, x = c1 := ⟨_, rfl⟩
                subst hq1 hq2
                have oP0 := own0
                have p1 := p0
                have z1 := z0
                have h1 := h0
                have hA1 := hA0
                generalize hwr : wr = w1 at *
                clear own0 p0 z0 h0 hA0 hwr
                obtain ⟨⟨q0, q1, q2, q3, q4, q5, q6, q7, q8, q9, q10, q11, q12, q13, q14, q15⟩, -⟩ := p1.cells16
                go_wp2_with (first
                  | (refine wpList_ldB (by rfl) _ _ (by rfl) h1 (by rfl) structRAn 19 infoRAn (by rfl) ?_)
                  | (refine wpList_stB (by rfl) _ _ _ (by rfl) z1 _ _ (by rfl) (by rfl) 19 19 (by rfl) (by rfl) (by decide) infoRAn (by rfl) (by rfl) ?_; intro w99 hz' hb99; have z99 : Bx w99 (w.heap.size + 1) 62 #[.int .u8 (a.a.fam : Nat), V64 a.a.hi, V64 a.a.lo, .int .u8 0, .int .u64 0, .int .u64 0, S a.owner, V64 a.til, .int .u8 (a.pool.a.fam : Nat), V64 a.pool.a.hi, V64 a.pool.a.lo, .int .i64 a.pool.bits, .bool a.has, .bool a.held, .bool a.live, V64 a.clock, .slice aR a.rows.length cR, .slice aE a.events.length cE, .slice aP a.pools.length cP] := hz'; clear hz'))
                exact bodyPost_ret (results_box rfl (by rfl) (loadB z99 structRAn infoRAn rfl)) rfl ⟨aR, cR, aE, cE, aP, cP, rfl, ⟨oR0.but z1 (by decide) hb99, oE0.but z1 (by decide) hb99, oP0.but z1 (by decide) hb99⟩, hA1.trans (hb99.below (Nat.le_succ _) hA1.size)⟩
end Go.Proofs.YtcobfoiajdbahaaDoor
