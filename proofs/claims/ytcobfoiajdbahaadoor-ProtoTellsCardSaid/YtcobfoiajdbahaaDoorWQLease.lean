/- The walks of the document's lease, written and taken. -/
import Derived.Test.YtcobfoiajdbahaaDoorWQTk
import Derived.Test.YtcobfoiajdbahaaDoorPQ
namespace Go.Proofs.YtcobfoiajdbahaaDoor
open Go.RowKit
set_option linter.unusedVariables false
set_option linter.unusedSimpArgs false
theorem infoRL : (Tryd.prog.info? 57).map (·.size) = some 5 := by kernel_rfl
theorem Bx.fiveP {w : World} {g : Nat} {t : TypeId} {a b c d e : Value} (h : Bx w g t #[a, b, c, d, e]) : w.cell? ⟨g, 0, none⟩ = some a ∧ w.cell? ⟨g, 1, none⟩ = some b ∧ w.cell? ⟨g, 2, none⟩ = some c ∧ w.cell? ⟨g, 3, none⟩ = some d ∧ w.cell? ⟨g, 4, none⟩ = some e := ⟨h.cell 0, h.cell 1, h.cell 2, h.cell 3, h.cell 4⟩
theorem P.leB_two (o : List UInt8) (t : Nat) (ho : o.length ≤ 20000) : (P.txB o).length ≤ 20009 ∧ (P.row t).length ≤ 9 := by
  have h := P.row_len9 o.length
  have h2 := P.row_len9 t
  unfold P.txB
  rw [List.length_append]
  omega
set_option maxRecDepth 100000 in
set_option maxHeartbeats 4000000 in
theorem refLease_any (x : P.Ad) (o : List UInt8) (t : Nat) (ho : o.length ≤ 20000) (ht : t < 18446744073709551616) (w : World) : Calls Tryd.prog 65 #[.agg #[.int .u8 (x.fam : Nat), V64 x.hi, V64 x.lo, S o, V64 t]] w fun e w' => e = .returned (S (P.leB o t)) ∧ Below w.heap.size w w' := by
  have h1 := Bx.fresh w 57 #[.int .u8 (x.fam : Nat), V64 x.hi, V64 x.lo, S o, V64 t]
  have hA := (Below.refl w.heap.size w).alloc (Nat.le_refl _) (.cells #[.int .u8 (x.fam : Nat), V64 x.hi, V64 x.lo, S o, V64 t] 57)
  have H1 := Lib.hid (fun wx => refText26_any o ho wx)
  have H2 := Lib.hid (fun wx => row_any t ht wx)
  have hl := P.leB_two o t ho
  have hadd : ¬ 9223372036854775807 < (P.txB o).length + (P.row t).length := by omega
  have hcat := str_catD (P.txB o) (P.row t)
  have Hres := Lib.hid (show P.leB o t = P.txB o ++ P.row t from rfl)
  rw [← Hres.out] at hcat
  generalize P.txB o = X at *
  generalize P.row t = Y at *
  generalize P.leB o t = L at *
  go_enter Tryd.func65, Tryd.ntmps65
  go_upto_region 1 with fail
  generalize hW : w.alloc (.cells #[.int .u8 (x.fam : Nat), V64 x.hi, V64 x.lo, S o, V64 t] 57) = w2 at *
  clear hW
  refine wp_region_held_drew (S := fun wx => Bx wx w.heap.size 57 #[.int .u8 (x.fam : Nat), V64 x.hi, V64 x.lo, S o, V64 t] ∧ Below w.heap.size w wx) (by kernel_rfl) ⟨h1.drew, hA.drew⟩ (fun hHeld => ?_)
  refine wpAnyH_take (i := 0) (v := ?_) rfl (by kernel_rfl) (by kernel_rfl) (by kernel_rfl) (fun _ _ _ h => h) (Or.inl ⟨by rfl, ?_⟩) hHeld ?_
  rotate_left
  · intro wq hSw; go_simp; (try with_reducible rfl)
  simp only [Act.put, nrm]
  refine wpAnyH_take (i := 1) (v := ?_) rfl (by kernel_rfl) (by kernel_rfl) (by kernel_rfl) (fun _ _ _ h => h) (Or.inl ⟨by rfl, ?_⟩) hHeld ?_
  rotate_left
  · intro wq hSw; obtain ⟨q0, q1, q2, q3, q4⟩ := hSw.1.fiveP; go_simp; (try with_reducible rfl)
  simp only [Act.put, nrm]
  refine wpAnyH_take (i := 3) (v := ?_) rfl (by kernel_rfl) (by kernel_rfl) (by kernel_rfl) (fun _ _ _ h => h) (Or.inl ⟨by rfl, ?_⟩) hHeld ?_
  rotate_left
  · intro wq hSw; go_simp; (try with_reducible rfl)
  simp only [Act.put, nrm]
  refine wpAnyH_take (i := 4) (v := ?_) rfl (by kernel_rfl) (by kernel_rfl) (by kernel_rfl) (fun _ _ _ h => h) (Or.inl ⟨by rfl, ?_⟩) hHeld ?_
  rotate_left
  · intro wq hSw; obtain ⟨q0, q1, q2, q3, q4⟩ := hSw.1.fiveP; go_simp; (try with_reducible rfl)
  simp only [Act.put, nrm]
  refine wpAnyH_one (i := 2) (by kernel_rfl) rfl (fun K hK => ?_)
  simp only [nrm]
  go_simp
  (with_reducible refine (H1.out _).mono ?_)
  rintro e v1 ⟨rfl, hb1⟩
  have hSv1 : Bx v1 w.heap.size 57 #[.int .u8 (x.fam : Nat), V64 x.hi, V64 x.lo, S o, V64 t] ∧ Below w.heap.size w v1 := ⟨hHeld.1.up hb1, Chain.up hHeld.2 hb1⟩
  refine hK.out _ _ hSv1 ?_
  clear hK K
  refine wpAnyH_one (i := 5) (by kernel_rfl) rfl (fun K hK => ?_)
  simp only [nrm]
  go_simp
  (with_reducible refine (H2.out _).mono ?_)
  rintro e v2 ⟨rfl, hb2⟩
  have hSv2 : Bx v2 w.heap.size 57 #[.int .u8 (x.fam : Nat), V64 x.hi, V64 x.lo, S o, V64 t] ∧ Below w.heap.size w v2 := ⟨hSv1.1.up hb2, Chain.up hSv1.2 hb2⟩
  refine hK.out _ _ hSv2 ?_
  clear hK K
  refine wpAnyH_take (i := 6) (v := ?_) rfl (by kernel_rfl) (by kernel_rfl) (by kernel_rfl) (fun _ _ _ h => h) (Or.inl ⟨by rfl, ?_⟩) hSv2 ?_
  rotate_left
  · intro wq hSw; go_simp; (try with_reducible rfl)
  simp only [Act.put, nrm]
  refine wpAnyH_take (i := 7) (v := ?_) rfl (by kernel_rfl) (by kernel_rfl) (by kernel_rfl) (fun _ _ _ h => h) (Or.inl ⟨by rfl, ?_⟩) hSv2 ?_
  rotate_left
  · intro wq hSw; go_simp; (try with_reducible rfl)
  simp only [Act.put, nrm]
  refine wpAnyH_done (by kernel_rfl) ?_ _
  go_wp2_with fail
  go_ret
  exact ⟨by first | rfl | (rw [← hcat]; rfl) | (simp only [hcat]; rfl), hSv2.2⟩
end Go.Proofs.YtcobfoiajdbahaaDoor
