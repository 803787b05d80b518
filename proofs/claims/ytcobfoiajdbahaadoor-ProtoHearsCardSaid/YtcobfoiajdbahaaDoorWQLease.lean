/- The walks of the document's lease, written and taken. -/
import Derived.Test.YtcobfoiajdbahaaDoorWQTk
import Derived.Test.YtcobfoiajdbahaaDoorPHear
namespace Go.Proofs.YtcobfoiajdbahaaDoor
open Go.RowKit
set_option linter.unusedVariables false
set_option linter.unusedSimpArgs false
theorem infoRL : (Tryd.prog.info? 57).map (·.size) = some 5 := by kernel_rfl
theorem structRL : Tryd.prog.underlying 57 = some (.struct (Tryd.prog.fieldsOf 57)) := by kernel_rfl
theorem Bx.fiveP {w : World} {g : Nat} {t : TypeId} {a b c d e : Value} (h : Bx w g t #[a, b, c, d, e]) : w.cell? ⟨g, 0, none⟩ = some a ∧ w.cell? ⟨g, 1, none⟩ = some b ∧ w.cell? ⟨g, 2, none⟩ = some c ∧ w.cell? ⟨g, 3, none⟩ = some d ∧ w.cell? ⟨g, 4, none⟩ = some e := ⟨h.cell 0, h.cell 1, h.cell 2, h.cell 3, h.cell 4⟩
theorem P.leB_two (o : List UInt8) (t : Nat) (ho : o.length ≤ 20000) : (P.txB o).length ≤ 20009 ∧ (P.row t).length ≤ 9 := by
  have h := P.row_len9 o.length
  have h2 := P.row_len9 t
  unfold P.txB
  rw [List.length_append]
  omega
set_option maxRecDepth 100000 in
set_option maxHeartbeats 4000000 in
theorem refLease_any (x : P.Ad) (o : List UInt8) (t : Nat) (ho : o.length ≤ 20000) (ht : t < 18446744073709551616) (w : World) : Calls Tryd.prog 65 #[.agg #[.int .u8 (x.fam : Nat), V64 x.hi, V64 x.lo, S o, V64 t]] w fun e w' => e = .returned (S (P.leB o t)) ∧ Below w.heap.size w w' := by
  have h1 := Bx.fresh w 57 #[.int .u8 (x.fam : Nat), V64 x.hi, V64 x.lo, S o, V64 t]
  have hA := (Below.refl w.heap.size w).alloc (Nat.le_refl _) (.cells #[.int .u8 (x.fam : Nat), V64 x.hi, V64 x.lo, S o, V64 t] 57)
  have H1 := Lib.hid (fun wx => refText26_any o ho wx)
  have H2 := Lib.hid (fun wx => row_any t ht wx)
  have hl := P.leB_two o t ho
  have hadd : ¬ 9223372036854775807 < (P.txB o).length + (P.row t).length := by omega
  have hcat := str_catD (P.txB o) (P.row t)
  have Hres := Lib.hid (show P.leB o t = P.txB o ++ P.row t from rfl)
  rw [← Hres.out] at hcat
  generalize P.txB o = X at *
  generalize P.row t = Y at *
  generalize P.leB o t = L at *
  go_enter Tryd.func65, Tryd.ntmps65
  go_upto_region 1 with fail
  generalize hW : w.alloc (.cells #[.int .u8 (x.fam : Nat), V64 x.hi, V64 x.lo, S o, V64 t] 57) = w2 at *
  clear hW
  refine wp_region_held_drew (S := fun wx => Bx wx w.heap.size 57 #[.int .u8 (x.fam : Nat), V64 x.hi, V64 x.lo, S o, V64 t] ∧ Below w.heap.size w wx) (by kernel_rfl) ⟨h1.drew, hA.drew⟩ (fun hHeld => ?_)
  refine wpAnyH_take (i := 0) (v := ?_) rfl (by kernel_rfl) (by kernel_rfl) (by kernel_rfl) (fun _ _ _ h => h) (Or.inl ⟨by rfl, ?_⟩) hHeld ?_
  rotate_left
  · intro wq hSw; go_simp; (try with_reducible rfl)
  simp only [Act.put, nrm]
  refine wpAnyH_take (i := 1) (v := ?_) rfl (by kernel_rfl) (by kernel_rfl) (by kernel_rfl) (fun _ _ _ h => h) (Or.inl ⟨by rfl, ?_⟩) hHeld ?_
  rotate_left
  · intro wq hSw; obtain ⟨q0, q1, q2, q3, q4⟩ := hSw.1.fiveP; go_simp; (try with_reducible rfl)
  simp only [Act.put, nrm]
  refine wpAnyH_take (i := 3) (v := ?_) rfl (by kernel_rfl) (by kernel_rfl) (by kernel_rfl) (fun _ _ _ h => h) (Or.inl ⟨by rfl, ?_⟩) hHeld ?_
  rotate_left
  · intro wq hSw; go_simp; (try with_reducible rfl)
  simp only [Act.put, nrm]
  refine wpAnyH_take (i := 4) (v := ?_) rfl (by kernel_rfl) (by kernel_rfl) (by kernel_rfl) (fun _ _ _ h => h) (Or.inl ⟨by rfl, ?_⟩) hHeld ?_
  rotate_left
  · intro wq hSw; obtain ⟨q0, q1, q2, q3, q4⟩ := hSw.1.fiveP; go_simp; (try with_reducible rfl)
  simp only [Act.put, nrm]
  refine wpAnyH_one (i := 2) (by kernel_rfl) rfl (fun K hK => ?_)
  simp only [nrm]
  go_simp
  (with_reducible refine (H1.out _).mono ?_)
  rintro e v1 ⟨rfl, hb1⟩
  have hSv1 : Bx v1 w.heap.size 57 #[.int .u8 (x.fam : Nat), V64 x.hi, V64 x.lo, S o, V64 t] ∧ Below w.heap.size w v1 := ⟨hHeld.1.up hb1, Chain.up hHeld.2 hb1⟩
  refine hK.out _ _ hSv1 ?_
  clear hK K
  refine wpAnyH_one (i := 5) (by kernel_rfl) rfl (fun K hK => ?_)
  simp only [nrm]
  go_simp
  (with_reducible refine (H2.out _).mono ?_)
  rintro e v2 ⟨rfl, hb2⟩
  have hSv2 : Bx v2 w.heap.size 57 #[.int .u8 (x.fam : Nat), V64 x.hi, V64 x.lo, S o, V64 t] ∧ Below w.heap.size w v2 := ⟨hSv1.1.up hb2, Chain.up hSv1.2 hb2⟩
  refine hK.out _ _ hSv2 ?_
  clear hK K
  refine wpAnyH_take (i := 6) (v := ?_) rfl (by kernel_rfl) (by kernel_rfl) (by kernel_rfl) (fun _ _ _ h => h) (Or.inl ⟨by rfl, ?_⟩) hSv2 ?_
  rotate_left
  · intro wq hSw; go_simp; (try with_reducible rfl)
  simp only [Act.put, nrm]
  refine wpAnyH_take (i := 7) (v := ?_) rfl (by kernel_rfl) (by kernel_rfl) (by kernel_rfl) (fun _ _ _ h => h) (Or.inl ⟨by rfl, ?_⟩) hSv2 ?_
  rotate_left
  · intro wq hSw; go_simp; (try with_reducible rfl)
  simp only [Act.put, nrm]
  refine wpAnyH_done (by kernel_rfl) ?_ _
  go_wp2_with fail
  go_ret
  exact ⟨by first | rfl | (rw [← hcat]; rfl) | (simp only [hcat]; rfl), hSv2.2⟩
set_option maxRecDepth 100000 in
set_option maxHeartbeats 4000000 in
theorem tkLease_any (x : P.Ad) (s : List UInt8) (hs : s.length ≤ 1000000000) (w : World) : Calls Tryd.prog 91 #[adV x, S s] w fun e w' => e = .returned (.tuple #[.agg #[.int .u8 (x.fam : Nat), V64 x.hi, V64 x.lo, S (P.tkL s).1.1, V64 (P.tkL s).1.2], S (P.tkL s).2]) ∧ Below w.heap.size w w' := by
  obtain ⟨h2, h4, hA⟩ := two_bx w #[.int .u8 (x.fam : Nat), V64 x.hi, V64 x.lo] #[.int .u8 0, .int .u64 0, .int .u64 0, .string ⟨#[]⟩, .int .u64 0] 42 57
  have HT := Lib.hid (fun wx => tkT_any s hs wx)
  have hr : (P.tkT s).2.length ≤ 1000000000 := Nat.le_trans (P.tkT_le s) hs
  have HN := Lib.hid (fun wx => tkN_any (P.tkT s).2 hr wx)
  have Hr := Lib.hid (show P.tkL s = (((P.tkT s).1, (P.tkN (P.tkT s).2).1), (P.tkN (P.tkT s).2).2) from rfl)
  generalize P.tkL s = res at *
  generalize P.tkT s = q at *
  obtain ⟨o, r⟩ := q
  simp only at HT HN Hr hr
  generalize P.tkN r = q at *
  obtain ⟨t, r2⟩ := q
  simp only at HN Hr
  go_enter Tryd.func91, Tryd.ntmps91
  go_upto_region 1 with fail
  generalize hW : (w.alloc (.cells #[.int .u8 (x.fam : Nat), V64 x.hi, V64 x.lo] 42)).alloc (.cells #[.int .u8 0, .int .u64 0, .int .u64 0, .string ⟨#[]⟩, .int .u64 0] 57) = w2 at *
  clear hW
  have hlt4 := h4.lt
  have h60 := Bx.fresh w2 57 #[.int .u8 0, .int .u64 0, .int .u64 0, .string ⟨#[]⟩, .int .u64 0]
  have h42 := h4.alloc (.cells #[.int .u8 0, .int .u64 0, .int .u64 0, .string ⟨#[]⟩, .int .u64 0] 57)
  have hA2 := hA.alloc hA.size (.cells #[.int .u8 0, .int .u64 0, .int .u64 0, .string ⟨#[]⟩, .int .u64 0] 57)
  have hg6 : w.heap.size ≤ w2.heap.size := hA.size
  obtain ⟨c0, c1, c2, -, -, -⟩ := h2.three
  go_wp2_with (first
    | (refine wpList_stB (by rfl) _ _ _ (by rfl) h60 _ _ (by rfl) (by rfl) 5 5 (by rfl) (by rfl) (by decide) infoRL (by rfl) (by rfl) ?_; intro v3 hz' hb3; have h63 : Bx v3 w2.heap.size 57 #[.int .u8 (x.fam : Nat), V64 x.hi, V64 x.lo, .string ⟨#[]⟩, .int .u64 0] := hz'; clear hz'; have h43 := h42.but hb3 (by omega); have hA3 := hA2.trans (hb3.below hg6 hA2.size); clear h60 h42 hA2 hb3 c0 c1 c2)
    | (go_at_call 59; (with_reducible refine (HT.out _).mono ?_); rintro e v4 ⟨rfl, hb4⟩; have h64 := h63.up hb4; have h44 := h43.up hb4; have hA4 := Chain.up hA3 hb4; clear h63 h43 hA3 hb4)
    | (refine wpList_stV (by rfl) _ _ _ (by rfl) h64 3 _ (by rfl) (by rfl) (by rfl) (by rfl) 5 (by rfl) (by decide) infoStr (by rfl) ?_; intro v5 hz' hb5; have h65 : Bx v5 w2.heap.size 57 #[.int .u8 (x.fam : Nat), V64 x.hi, V64 x.lo, S o, .int .u64 0] := hz'; clear hz'; have h45 := h44.but hb5 (by omega); have hA5 := hA4.trans (hb5.below hg6 hA4.size); clear h64 h44 hA4 hb5)
    | (go_at_call 60; (with_reducible refine (HN.out _).mono ?_); rintro e v6 ⟨rfl, hb6⟩; have h66 := h65.up hb6; have h46 := h45.up hb6; have hA6 := Chain.up hA5 hb6; clear h65 h45 hA5 hb6)
    | (refine wpList_stV (by rfl) _ _ _ (by rfl) h66 4 _ (by rfl) (by rfl) (by rfl) (by rfl) 5 (by rfl) (by decide) infoU64 (by rfl) ?_; intro v7 hz' hb7; have h67 : Bx v7 w2.heap.size 57 #[.int .u8 (x.fam : Nat), V64 x.hi, V64 x.lo, S o, V64 t] := hz'; clear hz'; have h47 := h46.but hb7 (by omega); have hA7 := hA6.trans (hb7.below hg6 hA6.size); clear h66 h46 hA6 hb7)
    | (refine wpList_ldB (by rfl) _ _ (by rfl) h67 (by rfl) structRL 5 infoRL (by rfl) ?_)
    | (refine wpList_stB (by rfl) _ _ _ (by rfl) h47 _ _ (by rfl) (by rfl) 5 5 (by rfl) (by rfl) (by decide) infoRL (by rfl) (by rfl) ?_; intro v9 hz' hb9; have h9 : Bx v9 (w.heap.size + 1) 57 #[.int .u8 (x.fam : Nat), V64 x.hi, V64 x.lo, S o, V64 t] := hz'; clear hz'))
  exact bodyPost_ret (results_box2 rfl (by rfl) (loadB h9 structRL infoRL rfl)) rfl ⟨by rw [Hr.out]; rfl, hA7.trans (hb9.below (Nat.le_succ _) hA7.size)⟩
end Go.Proofs.YtcobfoiajdbahaaDoor
