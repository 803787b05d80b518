/- The walk of proto.Hear: what an answer tells. -/
import Derived.Test.YtcobfoiajdbahaaDoorWQRead
import Derived.Test.YtcobfoiajdbahaaDoorWQAns
namespace Go.Proofs.YtcobfoiajdbahaaDoor
open Go.RowKit
set_option linter.unusedVariables false
set_option linter.unusedSimpArgs false
/-- What Hear gives. -/
def HearDid (s : List UInt8) (w : World) (e : Ending) (w' : World) : Prop := ∃ r rc v vc p pc, e = .returned (.tuple #[caV (P.hearC s), anV (P.hearA s) r rc v vc p pc, .int .i64 (P.hearN s : Nat), .bool (P.hearOk s)]) ∧ OwnAns w' w.heap.size (P.hearA s) r rc v vc p pc ∧ Below w.heap.size w w'
set_option maxRecDepth 100000 in
set_option maxHeartbeats 16000000 in
theorem hear_err (s : List UInt8) (hs : s.length ≤ 1000000) (he : (P.hearE s).1 ≠ 0) (w : World) : Calls Tryd.prog 23 #[S s] w (HearDid s w) := by
  have hA := three_bx w #[.int .u8 0, .int .u8 0, .int .u64 0, .int .u8 0, .int .u64 0, .int .u64 0, .int .i64 0, .int .u8 0, .int .u64 0, .int .u64 0, .string ⟨#[]⟩, .string ⟨#[]⟩, .int .u64 0, .int .u64 0, .int .i64 0] #[.int .u8 0, .int .u64 0, .int .u64 0, .string ⟨#[]⟩, .int .u64 0, .int .u8 0, .int .u64 0, .int .u64 0, .int .i64 0, .bool false, .bool false, .bool false, .int .u64 0, .slice none 0 0, .slice none 0 0, .slice none 0 0] #[S s, .bool false] 28 36 108
  obtain ⟨hc0, ha0, hr0, hA⟩ := hA
  have HB := Lib.hid (fun wx (hx : RdX wx (w.heap.size + 1 + 1) (s, false)) => show Calls Tryd.prog 55 #[.pointer (some ⟨w.heap.size + 1 + 1, 0, none⟩), .int .i64 0, .int .i64 255] wx fun e w' => e = .returned (.int .i64 ((P.hearE s).1 : Nat)) ∧ RdX w' (w.heap.size + 1 + 1) (P.hearE s).2 ∧ But (w.heap.size + 1 + 1) wx w' from byte_any (w.heap.size + 1 + 1) (s, false) 0 255 (by omega) wx (show s.length ≤ 1000000000 by omega) hx)
  have hl1 : (P.hearE s).2.1.length ≤ s.length := P.qB_le 0 255 (s, false)
  have HH := Lib.hid (fun wx (hx : RdX wx (w.heap.size + 1 + 1) (P.hearE s).2) => show Calls Tryd.prog 49 #[.pointer (some ⟨w.heap.size + 1 + 1, 0, none⟩)] wx fun e w' => e = .returned (hdV (P.hearH s).1) ∧ RdX w' (w.heap.size + 1 + 1) (P.hearH s).2 ∧ But (w.heap.size + 1 + 1) wx w' from head_any (w.heap.size + 1 + 1) (P.hearE s).2 wx (by omega) hx)
  have hl2 : (P.hearH s).2.1.length ≤ s.length := Nat.le_trans (P.qH_le (P.hearE s).2) hl1
  have hty := P.hearH_ty s
  have Hok := Lib.hid (show P.hearOk s = (!(P.hearH s).2.2 && decide ((P.hearH s).2.1 = [])) by unfold P.hearOk P.hearT; rw [if_neg he])
  have HA := Lib.hid (show P.hearA s = P.noAn by unfold P.hearA P.hearT; rw [if_neg he]; split <;> rfl)
  have HC := Lib.hid (show P.hearOk s = true → P.hearC s = P.headC (P.hearH s).1 ∧ P.hearN s = (P.hearE s).1 from fun h => by unfold P.hearC P.hearN; rw [if_pos h, if_pos h]; exact ⟨rfl, rfl⟩)
  generalize P.hearE s = ee at *
  obtain ⟨e, q1⟩ := ee
  generalize P.hearH s = hh at *
  obtain ⟨h, q2⟩ := hh
  simp only at HB HH hl1 hl2 hty Hok HC he
  have te : ((e : Int) == 0) = false := beq_eq_false_iff_ne.2 (by omega)
  go_enter Tryd.func23, Tryd.ntmps23
  go_upto_region 4 with (first
    | (go_at_call 55; (with_reducible refine (HB.out _ hr0).mono ?_); rintro e' w1 ⟨rfl, hx1, hb1⟩; have hc1 := hc0.but hb1 (by omega); have ha1 := ha0.but hb1 (by omega); have hA1 := hA.trans (hb1.below (B := w.heap.size) (by omega) hA.size))
    | (go_at_call 49; (with_reducible refine (HH.out _ hx1).mono ?_); rintro e' w2 ⟨rfl, hx2, hb2⟩; have hc2 := hc1.but hb2 (by omega); have ha2 := ha1.but hb2 (by omega); have hA2 := hA1.trans (hb2.below (B := w.heap.size) (by omega) hA1.size))
    | (refine wpList_stB (by rfl) _ _ _ (by rfl) hc2 _ _ (by rfl) (by rfl) 15 15 (by rfl) (by rfl) (by decide) infoCall (by rfl) (by rfl) ?_; intro w3 hz' hb'w3; have hc3 : Bx w3 w.heap.size 28 #[.int .u8 (h.1 : Nat), .int .u8 (h.2.1 : Nat), V64 h.2.2, .int .u8 0, .int .u64 0, .int .u64 0, .int .i64 0, .int .u8 0, .int .u64 0, .int .u64 0, .string ⟨#[]⟩, .string ⟨#[]⟩, .int .u64 0, .int .u64 0, .int .i64 0] := hz'; clear hz'; have ha3 := ha2.but hb'w3 (by omega); skip))
  have hx3 : RdX w3 (w.heap.size + 1 + 1) q2 := Bx.but hx2 hb'w3 (by omega)
  have hA3 := hA2.trans (hb'w3.below (Nat.le_refl _) hA2.size)
  clear hc0 ha0 hr0 hA HB HH hc1 ha1 hA1 hc2 ha2 hA2 hb'w3 hx1 hb1 hx2 hb2
  have hokl := Hok.out
  generalize hqq : q2 = q at *
  clear hqq Hok
  obtain ⟨s3, bad⟩ := q
  simp only at hokl
  obtain ⟨y0, y1, _, _⟩ := hx3.two
  cases bad with
  | true =>
    have Hno := Lib.hid (show P.hearOk s = false from hokl.trans rfl)
    go_wp2_with (first
      | (refine wpList_stB (by rfl) _ _ _ (by rfl) hc3 _ _ (by rfl) (by rfl) 15 15 (by rfl) (by rfl) (by decide) infoCall (by rfl) (by rfl) ?_; intro v1 hz' hb'v1; have hc9 : Bx v1 w.heap.size 28 #[.int .u8 0, .int .u8 0, .int .u64 0, .int .u8 0, .int .u64 0, .int .u64 0, .int .i64 0, .int .u8 0, .int .u64 0, .int .u64 0, .string ⟨#[]⟩, .string ⟨#[]⟩, .int .u64 0, .int .u64 0, .int .i64 0] := hz'; clear hz'; have ha9 := ha3.but hb'v1 (by omega); skip)
      | (refine wpList_stB (by rfl) _ _ _ (by rfl) ha9 _ _ (by rfl) (by rfl) 16 16 (by rfl) (by rfl) (by decide) infoAns (by rfl) (by rfl) ?_; intro v2 hz' hb'v2; have ha10 : Bx v2 (w.heap.size + 1) 36 #[.int .u8 0, .int .u64 0, .int .u64 0, .string ⟨#[]⟩, .int .u64 0, .int .u8 0, .int .u64 0, .int .u64 0, .int .i64 0, .bool false, .bool false, .bool false, .int .u64 0, .slice none 0 0, .slice none 0 0, .slice none 0 0] := hz'; clear hz'; have hc10 := hc9.but hb'v2 (by omega); skip))
    exact bodyPost_ret (results_box4 rfl (by rfl) (by rfl) (loadB hc10 structCall infoCall rfl) (loadB ha10 structAns infoAns rfl)) rfl ⟨none, 0, none, 0, none, 0, by have hno := Hno.out; unfold P.hearC P.hearA P.hearN; rw [hno]; rfl, OwnAns.none _ _ _ (by unfold P.hearA; rw [Hno.out]; rfl) (by unfold P.hearA; rw [Hno.out]; rfl) (by unfold P.hearA; rw [Hno.out]; rfl), (hA3.trans (hb'v1.below (Nat.le_refl _) hA3.size)).trans (hb'v2.below (Nat.le_succ _) (by have := hA3.size; have := hb'v1.size; omega))⟩
  | false =>
    cases s3 with
    | cons x3 t3 =>
      generalize hT : x3 :: t3 = T at *
      have hT2 : T.isEmpty = false := by rw [← hT]; rfl
      have hT3 : ¬ T = [] := by rw [← hT]; simp
      have Hno := Lib.hid (show P.hearOk s = false by rw [hokl]; simp [hT3])
      clear hT hokl
      go_wp2_with (first
        | (refine wpList_stB (by rfl) _ _ _ (by rfl) hc3 _ _ (by rfl) (by rfl) 15 15 (by rfl) (by rfl) (by decide) infoCall (by rfl) (by rfl) ?_; intro v1 hz' hb'v1; have hc9 : Bx v1 w.heap.size 28 #[.int .u8 0, .int .u8 0, .int .u64 0, .int .u8 0, .int .u64 0, .int .u64 0, .int .i64 0, .int .u8 0, .int .u64 0, .int .u64 0, .string ⟨#[]⟩, .string ⟨#[]⟩, .int .u64 0, .int .u64 0, .int .i64 0] := hz'; clear hz'; have ha9 := ha3.but hb'v1 (by omega); skip)
        | (refine wpList_stB (by rfl) _ _ _ (by rfl) ha9 _ _ (by rfl) (by rfl) 16 16 (by rfl) (by rfl) (by decide) infoAns (by rfl) (by rfl) ?_; intro v2 hz' hb'v2; have ha10 : Bx v2 (w.heap.size + 1) 36 #[.int .u8 0, .int .u64 0, .int .u64 0, .string ⟨#[]⟩, .int .u64 0, .int .u8 0, .int .u64 0, .int .u64 0, .int .i64 0, .bool false, .bool false, .bool false, .int .u64 0, .slice none 0 0, .slice none 0 0, .slice none 0 0] := hz'; clear hz'; have hc10 := hc9.but hb'v2 (by omega); skip))
      exact bodyPost_ret (results_box4 rfl (by rfl) (by rfl) (loadB hc10 structCall infoCall rfl) (loadB ha10 structAns infoAns rfl)) rfl ⟨none, 0, none, 0, none, 0, by have hno := Hno.out; unfold P.hearC P.hearA P.hearN; rw [hno]; rfl, OwnAns.none _ _ _ (by unfold P.hearA; rw [Hno.out]; rfl) (by unfold P.hearA; rw [Hno.out]; rfl) (by unfold P.hearA; rw [Hno.out]; rfl), (hA3.trans (hb'v1.below (Nat.le_refl _) hA3.size)).trans (hb'v2.below (Nat.le_succ _) (by have := hA3.size; have := hb'v1.size; omega))⟩
    | nil =>
      have Hyes := Lib.hid (show P.hearOk s = true from hokl.trans (by simp))
      clear hokl
      go_upto_region 9 with fail
      refine wp_region_held_drew (S := fun wx => (Bx wx w.heap.size 28 #[.int .u8 (h.1 : Nat), .int .u8 (h.2.1 : Nat), V64 h.2.2, .int .u8 0, .int .u64 0, .int .u64 0, .int .i64 0, .int .u8 0, .int .u64 0, .int .u64 0, .string ⟨#[]⟩, .string ⟨#[]⟩, .int .u64 0, .int .u64 0, .int .i64 0] ∧ Bx wx (w.heap.size + 1) 36 #[.int .u8 0, .int .u64 0, .int .u64 0, .string ⟨#[]⟩, .int .u64 0, .int .u8 0, .int .u64 0, .int .u64 0, .int .i64 0, .bool false, .bool false, .bool false, .int .u64 0, .slice none 0 0, .slice none 0 0, .slice none 0 0]) ∧ (OwnAns wx w.heap.size P.noAn none 0 none 0 none 0 ∧ Below w.heap.size w wx)) (by kernel_rfl) ⟨⟨hc3.drew, ha3.drew⟩, (OwnAns.none _ _ _ rfl rfl rfl).drew, hA3.drew⟩ (fun hHeld => ?_)
      refine wpAnyH_take (i := 0) (v := .agg #[.int .u8 (h.1 : Nat), .int .u8 (h.2.1 : Nat), V64 h.2.2, .int .u8 0, .int .u64 0, .int .u64 0, .int .i64 0, .int .u8 0, .int .u64 0, .int .u64 0, .string ⟨#[]⟩, .string ⟨#[]⟩, .int .u64 0, .int .u64 0, .int .i64 0]) rfl (by kernel_rfl) (by kernel_rfl) (by kernel_rfl) (fun _ _ _ h => h) (yieldsB (by rfl) _ _ (by rfl) (by rfl) (fun wx h => h.1.1) structCall 15 infoCall (by rfl)) hHeld ?_
      simp only [Act.put, nrm]
      refine wpAnyH_take (i := 1) (v := .agg #[.int .u8 0, .int .u64 0, .int .u64 0, .string ⟨#[]⟩, .int .u64 0, .int .u8 0, .int .u64 0, .int .u64 0, .int .i64 0, .bool false, .bool false, .bool false, .int .u64 0, .slice none 0 0, .slice none 0 0, .slice none 0 0]) rfl (by kernel_rfl) (by kernel_rfl) (by kernel_rfl) (fun _ _ _ h => h) (yieldsB (by rfl) _ _ (by rfl) (by rfl) (fun wx h => h.1.2) structAns 16 infoAns (by rfl)) hHeld ?_
      simp only [Act.put, nrm]
      refine wpAnyH_take (i := 2) (v := ?_) rfl (by kernel_rfl) (by kernel_rfl) (by kernel_rfl) (fun _ _ _ h => h) (Or.inl ⟨by rfl, ?_⟩) hHeld ?_
      rotate_left
      · intro wq hSw; go_simp; (try with_reducible rfl)
      simp only [Act.put, nrm]
      refine wpAnyH_one (i := 3) (by kernel_rfl) rfl (fun K hK => ?_)
      simp only [nrm]
      rw [if_pos (by rfl)]
      refine wp_stB _ _ _ (by rfl) hHeld.1.1 _ _ (by rfl) (by rfl) 15 15 (by rfl) (by rfl) (by decide) infoCall (by rfl) (by rfl) ?_
      intro v1 hz' hbSv1
      have hSv1 : (Bx v1 w.heap.size 28 #[.int .u8 (h.1 : Nat), .int .u8 (h.2.1 : Nat), V64 h.2.2, .int .u8 0, .int .u64 0, .int .u64 0, .int .i64 0, .int .u8 0, .int .u64 0, .int .u64 0, .string ⟨#[]⟩, .string ⟨#[]⟩, .int .u64 0, .int .u64 0, .int .i64 0] ∧ Bx v1 (w.heap.size + 1) 36 #[.int .u8 0, .int .u64 0, .int .u64 0, .string ⟨#[]⟩, .int .u64 0, .int .u8 0, .int .u64 0, .int .u64 0, .int .i64 0, .bool false, .bool false, .bool false, .int .u64 0, .slice none 0 0, .slice none 0 0, .slice none 0 0]) ∧ (OwnAns v1 w.heap.size P.noAn none 0 none 0 none 0 ∧ Below w.heap.size w v1) := ⟨⟨hz', hHeld.1.2.but hbSv1 (by omega)⟩, hHeld.2.1.but hHeld.1.1 ⟨by decide, by decide, by decide⟩ hbSv1, hHeld.2.2.trans (hbSv1.below (Nat.le_refl _) hHeld.2.2.size)⟩
      refine hK.out _ _ hSv1 ?_
      simp only [Act.put, nrm]
      clear hK K
      refine wpAnyH_one (i := 4) (by kernel_rfl) rfl (fun K hK => ?_)
      simp only [nrm]
      rw [if_pos (by rfl)]
      refine wp_stB _ _ _ (by rfl) hSv1.1.2 _ _ (by rfl) (by rfl) 16 16 (by rfl) (by rfl) (by decide) infoAns (by rfl) (by rfl) ?_
      intro v2 hz' hbSv2
      have hSv2 : (Bx v2 w.heap.size 28 #[.int .u8 (h.1 : Nat), .int .u8 (h.2.1 : Nat), V64 h.2.2, .int .u8 0, .int .u64 0, .int .u64 0, .int .i64 0, .int .u8 0, .int .u64 0, .int .u64 0, .string ⟨#[]⟩, .string ⟨#[]⟩, .int .u64 0, .int .u64 0, .int .i64 0] ∧ Bx v2 (w.heap.size + 1) 36 #[.int .u8 0, .int .u64 0, .int .u64 0, .string ⟨#[]⟩, .int .u64 0, .int .u8 0, .int .u64 0, .int .u64 0, .int .i64 0, .bool false, .bool false, .bool false, .int .u64 0, .slice none 0 0, .slice none 0 0, .slice none 0 0]) ∧ (OwnAns v2 w.heap.size P.noAn none 0 none 0 none 0 ∧ Below w.heap.size w v2) := ⟨⟨hSv1.1.1.but hbSv2 (by omega), hz'⟩, hSv1.2.1.but hSv1.1.2 ⟨by decide, by decide, by decide⟩ hbSv2, hSv1.2.2.trans (hbSv2.below (Nat.le_succ _) hSv1.2.2.size)⟩
      refine hK.out _ _ hSv2 ?_
      simp only [Act.put, nrm]
      clear hK K
      refine wpAnyH_take (i := 5) (v := ?_) rfl (by kernel_rfl) (by kernel_rfl) (by kernel_rfl) (fun _ _ _ h => h) (Or.inl ⟨by rfl, ?_⟩) hSv2 ?_
      rotate_left
      · intro wq hSw; go_simp; (try with_reducible rfl)
      simp only [Act.put, nrm]
      refine wpAnyH_take (i := 6) (v := ?_) rfl (by kernel_rfl) (by kernel_rfl) (by kernel_rfl) (fun _ _ _ h => h) (Or.inl ⟨by rfl, ?_⟩) hSv2 ?_
      rotate_left
      · intro wq hSw; go_simp; (try with_reducible rfl)
      simp only [Act.put, nrm]
      refine wpAnyH_done (by kernel_rfl) ?_ _
      go_wp2_with fail
      exact bodyPost_ret (results_box4 rfl (by rfl) (by rfl) (loadB hSv2.1.1 structCall infoCall rfl) (loadB hSv2.1.2 structAns infoAns rfl)) rfl ⟨none, 0, none, 0, none, 0, by obtain ⟨c1, c2⟩ := HC.out Hyes.out; rw [c1, HA.out, c2, Hyes.out]; rfl, by rw [HA.out]; exact OwnAns.none _ _ _ rfl rfl rfl, hSv2.2.2⟩
set_option maxRecDepth 100000 in
set_option maxHeartbeats 16000000 in
theorem hear_ok (s : List UInt8) (hs : s.length ≤ 1000000) (he : (P.hearE s).1 = 0) (HT : ToldOk (P.hearH s).1.1) (w : World) : Calls Tryd.prog 23 #[S s] w (HearDid s w) := by
  have hA := three_bx w #[.int .u8 0, .int .u8 0, .int .u64 0, .int .u8 0, .int .u64 0, .int .u64 0, .int .i64 0, .int .u8 0, .int .u64 0, .int .u64 0, .string ⟨#[]⟩, .string ⟨#[]⟩, .int .u64 0, .int .u64 0, .int .i64 0] #[.int .u8 0, .int .u64 0, .int .u64 0, .string ⟨#[]⟩, .int .u64 0, .int .u8 0, .int .u64 0, .int .u64 0, .int .i64 0, .bool false, .bool false, .bool false, .int .u64 0, .slice none 0 0, .slice none 0 0, .slice none 0 0] #[S s, .bool false] 28 36 108
  obtain ⟨hc0, ha0, hr0, hA⟩ := hA
  have HB := Lib.hid (fun wx (hx : RdX wx (w.heap.size + 1 + 1) (s, false)) => show Calls Tryd.prog 55 #[.pointer (some ⟨w.heap.size + 1 + 1, 0, none⟩), .int .i64 0, .int .i64 255] wx fun e w' => e = .returned (.int .i64 ((P.hearE s).1 : Nat)) ∧ RdX w' (w.heap.size + 1 + 1) (P.hearE s).2 ∧ But (w.heap.size + 1 + 1) wx w' from byte_any (w.heap.size + 1 + 1) (s, false) 0 255 (by omega) wx (show s.length ≤ 1000000000 by omega) hx)
  have hl1 : (P.hearE s).2.1.length ≤ s.length := P.qB_le 0 255 (s, false)
  have HH := Lib.hid (fun wx (hx : RdX wx (w.heap.size + 1 + 1) (P.hearE s).2) => show Calls Tryd.prog 49 #[.pointer (some ⟨w.heap.size + 1 + 1, 0, none⟩)] wx fun e w' => e = .returned (hdV (P.hearH s).1) ∧ RdX w' (w.heap.size + 1 + 1) (P.hearH s).2 ∧ But (w.heap.size + 1 + 1) wx w' from head_any (w.heap.size + 1 + 1) (P.hearE s).2 wx (by omega) hx)
  have hl2 : (P.hearH s).2.1.length ≤ s.length := Nat.le_trans (P.qH_le (P.hearE s).2) hl1
  have hty := P.hearH_ty s
  have hq3 : P.hearT s = P.qTold (P.hearH s).1.1 ((P.hearH s).2.1, (P.hearH s).2.2 || !P.knownB (P.hearH s).1.1) := by unfold P.hearT; rw [if_pos he]
  have HT1 := Lib.hid (fun wx (hx : RdX wx (w.heap.size + 1 + 1) ((P.hearH s).2.1, (P.hearH s).2.2 || !P.knownB (P.hearH s).1.1)) => show Calls Tryd.prog 67 #[.pointer (some ⟨w.heap.size + 1 + 1, 0, none⟩), .int .u8 ((P.hearH s).1.1 : Nat)] wx fun e' w' => ∃ r rc v vc p pc, e' = .returned (anV (P.hearT s).1 r rc v vc p pc) ∧ OwnAns w' wx.heap.size (P.hearT s).1 r rc v vc p pc ∧ RdX w' (w.heap.size + 1 + 1) (P.hearT s).2 ∧ But (w.heap.size + 1 + 1) wx w' from by rw [hq3]; exact HT (w.heap.size + 1 + 1) _ wx (Nat.le_trans hl2 hs) hx)
  have Hok := Lib.hid (show P.hearOk s = (!(P.hearT s).2.2 && decide ((P.hearT s).2.1 = [])) from rfl)
  have HC := Lib.hid (show P.hearOk s = true → P.hearC s = P.headC (P.hearH s).1 ∧ P.hearA s = (P.hearT s).1 ∧ P.hearN s = 0 from fun h => by unfold P.hearC P.hearA P.hearN; rw [if_pos h, if_pos h, if_pos h, he]; exact ⟨rfl, rfl, rfl⟩)
  have HK := Lib.hid (fun wx => known_any (P.hearH s).1.1 hty.1 wx)
  clear hq3 hty
  generalize P.hearT s = tt at *
  obtain ⟨a, q⟩ := tt
  generalize P.hearE s = ee at *
  obtain ⟨e, q1⟩ := ee
  generalize P.hearH s = hh at *
  obtain ⟨h, q2⟩ := hh
  simp only at HB HH hl1 hl2 Hok HC he HT1 HK
  generalize P.knownB h.1 = kn at *
  subst he
  go_enter Tryd.func23, Tryd.ntmps23
  go_upto_region 4 with (first
    | (go_at_call 55; (with_reducible refine (HB.out _ hr0).mono ?_); rintro e' w1 ⟨rfl, hx1, hb1⟩; have hc1 := hc0.but hb1 (by omega); have ha1 := ha0.but hb1 (by omega); have hA1 := hA.trans (hb1.below (B := w.heap.size) (by omega) hA.size))
    | (go_at_call 49; (with_reducible refine (HH.out _ hx1).mono ?_); rintro e' w2 ⟨rfl, hx2, hb2⟩; have hc2 := hc1.but hb2 (by omega); have ha2 := ha1.but hb2 (by omega); have hA2 := hA1.trans (hb2.below (B := w.heap.size) (by omega) hA1.size))
    | (refine wpList_stB (by rfl) _ _ _ (by rfl) hc2 _ _ (by rfl) (by rfl) 15 15 (by rfl) (by rfl) (by decide) infoCall (by rfl) (by rfl) ?_; intro w3 hz' hb'w3; have hc3 : Bx w3 w.heap.size 28 #[.int .u8 (h.1 : Nat), .int .u8 (h.2.1 : Nat), V64 h.2.2, .int .u8 0, .int .u64 0, .int .u64 0, .int .i64 0, .int .u8 0, .int .u64 0, .int .u64 0, .string ⟨#[]⟩, .string ⟨#[]⟩, .int .u64 0, .int .u64 0, .int .i64 0] := hz'; clear hz'; have ha3 := ha2.but hb'w3 (by omega); skip))
  have hx3 : RdX w3 (w.heap.size + 1 + 1) q2 := Bx.but hx2 hb'w3 (by omega)
  have hA3 := hA2.trans (hb'w3.below (Nat.le_refl _) hA2.size)
  clear hc0 ha0 hr0 hA HB HH hc1 ha1 hA1 hc2 ha2 hA2 hb'w3 hx1 hb1 hx2 hb2
  obtain ⟨s2, b2⟩ := q2
  have hcc3 : w3.cell? ⟨w.heap.size, 0, none⟩ = some (.int .u8 (h.1 : Nat)) := hc3.cell 0
  obtain ⟨x0, x1, _, _⟩ := hx3.two
  cases b2 with
  | true =>
    clear HK
    go_upto_region 7 with (first
      | (refine wpList_stV (by rfl) _ _ _ (by rfl) hx3 _ _ (by rfl) (by rfl) (by rfl) (by rfl) 2 (by rfl) (by decide) infoBool (by rfl) ?_; intro w5 hz' hb5; have hx5 : RdX w5 (w.heap.size + 1 + 1) (s2, true) := hz'; clear hz'; have hc5 := hc3.but hb5 (by omega); have ha5 := ha3.but hb5 (by omega); have hA5 := hA3.trans (hb5.below (B := w.heap.size) (by omega) hA3.size); have hcc5 : w5.cell? ⟨w.heap.size, 0, none⟩ = some (.int .u8 (h.1 : Nat)) := hc5.cell 0)
      | (go_at_call 67; (with_reducible refine (HT1.out _ hx5).mono ?_); rintro e' w6 ⟨r, rc, v, vc, p, pc, rfl, hown6, hx6, hb6⟩; have hc6 := hc5.but hb6 (by omega); have ha6 := ha5.but hb6 (by omega); have hA6 := hA5.trans (hb6.below (B := w.heap.size) (by omega) hA5.size); have hown6' := hown6.low hA5.size)
      | (refine wpList_stB (by rfl) _ _ _ (by rfl) ha6 _ _ (by rfl) (by rfl) 16 16 (by rfl) (by rfl) (by decide) infoAns (by rfl) (by rfl) ?_; intro w7 hz' hb'w7; have ha7 : Bx w7 (w.heap.size + 1) 36 #[.int .u8 (a.a.fam : Nat), V64 a.a.hi, V64 a.a.lo, S a.owner, V64 a.til, .int .u8 (a.pool.a.fam : Nat), V64 a.pool.a.hi, V64 a.pool.a.lo, .int .i64 a.pool.bits, .bool a.has, .bool a.held, .bool a.live, V64 a.clock, .slice r a.rows.length rc, .slice v a.events.length vc, .slice p a.pools.length pc] := hz'; clear hz'; have hc7 := hc6.but hb'w7 (by omega); have hown7 := hown6'.but ha6 ⟨by decide, by decide, by decide⟩ hb'w7; skip))
    have hx7 : RdX w7 (w.heap.size + 1 + 1) q := Bx.but hx6 hb'w7 (by omega)
    have hA7 := hA6.trans (hb'w7.below (Nat.le_succ _) (by have := hA6.size; omega))
    have hokl := Hok.out
    clear Hok hc3 ha3 hx3 hA3 hx5 hc5 ha5 hA5 hcc5 hx6 hb6 hc6 ha6 hA6 hown6 hown6' hb'w7 hb5 HT1
    obtain ⟨s3, bad⟩ := q
    simp only at hokl
    obtain ⟨y0, y1, _, _⟩ := hx7.two
    cases bad with
    | true =>
      have Hno := Lib.hid (show P.hearOk s = false from hokl.trans rfl)
      go_wp2_with (first
        | (refine wpList_stB (by rfl) _ _ _ (by rfl) hc7 _ _ (by rfl) (by rfl) 15 15 (by rfl) (by rfl) (by decide) infoCall (by rfl) (by rfl) ?_; intro v1 hz' hb'v1; have hc9 : Bx v1 w.heap.size 28 #[.int .u8 0, .int .u8 0, .int .u64 0, .int .u8 0, .int .u64 0, .int .u64 0, .int .i64 0, .int .u8 0, .int .u64 0, .int .u64 0, .string ⟨#[]⟩, .string ⟨#[]⟩, .int .u64 0, .int .u64 0, .int .i64 0] := hz'; clear hz'; have ha9 := ha7.but hb'v1 (by omega); skip)
        | (refine wpList_stB (by rfl) _ _ _ (by rfl) ha9 _ _ (by rfl) (by rfl) 16 16 (by rfl) (by rfl) (by decide) infoAns (by rfl) (by rfl) ?_; intro v2 hz' hb'v2; have ha10 : Bx v2 (w.heap.size + 1) 36 #[.int .u8 0, .int .u64 0, .int .u64 0, .string ⟨#[]⟩, .int .u64 0, .int .u8 0, .int .u64 0, .int .u64 0, .int .i64 0, .bool false, .bool false, .bool false, .int .u64 0, .slice none 0 0, .slice none 0 0, .slice none 0 0] := hz'; clear hz'; have hc10 := hc9.but hb'v2 (by omega); skip))
      exact bodyPost_ret (results_box4 rfl (by rfl) (by rfl) (loadB hc10 structCall infoCall rfl) (loadB ha10 structAns infoAns rfl)) rfl ⟨none, 0, none, 0, none, 0, by have hno := Hno.out; unfold P.hearC P.hearA P.hearN; rw [hno]; rfl, OwnAns.none _ _ _ (by unfold P.hearA; rw [Hno.out]; rfl) (by unfold P.hearA; rw [Hno.out]; rfl) (by unfold P.hearA; rw [Hno.out]; rfl), (hA7.trans (hb'v1.below (Nat.le_refl _) hA7.size)).trans (hb'v2.below (Nat.le_succ _) (by have := hA7.size; have := hb'v1.size; omega))⟩
    | false =>
      cases s3 with
      | cons x3 t3 =>
        generalize hT : x3 :: t3 = T at *
        have hT2 : T.isEmpty = false := by rw [← hT]; rfl
        have hT3 : ¬ T = [] := by rw [← hT]; simp
        have Hno := Lib.hid (show P.hearOk s = false by rw [hokl]; simp [hT3])
        clear hT hokl
        go_wp2_with (first
          | (refine wpList_stB (by rfl) _ _ _ (by rfl) hc7 _ _ (by rfl) (by rfl) 15 15 (by rfl) (by rfl) (by decide) infoCall (by rfl) (by rfl) ?_; intro v1 hz' hb'v1; have hc9 : Bx v1 w.heap.size 28 #[.int .u8 0, .int .u8 0, .int .u64 0, .int .u8 0, .int .u64 0, .int .u64 0, .int .i64 0, .int .u8 0, .int .u64 0, .int .u64 0, .string ⟨#[]⟩, .string ⟨#[]⟩, .int .u64 0, .int .u64 0, .int .i64 0] := hz'; clear hz'; have ha9 := ha7.but hb'v1 (by omega); skip)
          | (refine wpList_stB (by rfl) _ _ _ (by rfl) ha9 _ _ (by rfl) (by rfl) 16 16 (by rfl) (by rfl) (by decide) infoAns (by rfl) (by rfl) ?_; intro v2 hz' hb'v2; have ha10 : Bx v2 (w.heap.size + 1) 36 #[.int .u8 0, .int .u64 0, .int .u64 0, .string ⟨#[]⟩, .int .u64 0, .int .u8 0, .int .u64 0, .int .u64 0, .int .i64 0, .bool false, .bool false, .bool false, .int .u64 0, .slice none 0 0, .slice none 0 0, .slice none 0 0] := hz'; clear hz'; have hc10 := hc9.but hb'v2 (by omega); skip))
        exact bodyPost_ret (results_box4 rfl (by rfl) (by rfl) (loadB hc10 structCall infoCall rfl) (loadB ha10 structAns infoAns rfl)) rfl ⟨none, 0, none, 0, none, 0, by have hno := Hno.out; unfold P.hearC P.hearA P.hearN; rw [hno]; rfl, OwnAns.none _ _ _ (by unfold P.hearA; rw [Hno.out]; rfl) (by unfold P.hearA; rw [Hno.out]; rfl) (by unfold P.hearA; rw [Hno.out]; rfl), (hA7.trans (hb'v1.below (Nat.le_refl _) hA7.size)).trans (hb'v2.below (Nat.le_succ _) (by have := hA7.size; have := hb'v1.size; omega))⟩
      | nil =>
        have Hyes := Lib.hid (show P.hearOk s = true from hokl.trans (by simp))
        clear hokl
        go_upto_region 9 with fail
        refine wp_region_held_drew (S := fun wx => (Bx wx w.heap.size 28 #[.int .u8 (h.1 : Nat), .int .u8 (h.2.1 : Nat), V64 h.2.2, .int .u8 0, .int .u64 0, .int .u64 0, .int .i64 0, .int .u8 0, .int .u64 0, .int .u64 0, .string ⟨#[]⟩, .string ⟨#[]⟩, .int .u64 0, .int .u64 0, .int .i64 0] ∧ Bx wx (w.heap.size + 1) 36 #[.int .u8 (a.a.fam : Nat), V64 a.a.hi, V64 a.a.lo, S a.owner, V64 a.til, .int .u8 (a.pool.a.fam : Nat), V64 a.pool.a.hi, V64 a.pool.a.lo, .int .i64 a.pool.bits, .bool a.has, .bool a.held, .bool a.live, V64 a.clock, .slice r a.rows.length rc, .slice v a.events.length vc, .slice p a.pools.length pc]) ∧ (OwnAns wx w.heap.size a r rc v vc p pc ∧ Below w.heap.size w wx)) (by kernel_rfl) ⟨⟨hc7.drew, ha7.drew⟩, (hown7).drew, hA7.drew⟩ (fun hHeld => ?_)
        refine wpAnyH_take (i := 0) (v := .agg #[.int .u8 (h.1 : Nat), .int .u8 (h.2.1 : Nat), V64 h.2.2, .int .u8 0, .int .u64 0, .int .u64 0, .int .i64 0, .int .u8 0, .int .u64 0, .int .u64 0, .string ⟨#[]⟩, .string ⟨#[]⟩, .int .u64 0, .int .u64 0, .int .i64 0]) rfl (by kernel_rfl) (by kernel_rfl) (by kernel_rfl) (fun _ _ _ h => h) (yieldsB (by rfl) _ _ (by rfl) (by rfl) (fun wx h => h.1.1) structCall 15 infoCall (by rfl)) hHeld ?_
        simp only [Act.put, nrm]
        refine wpAnyH_take (i := 1) (v := .agg #[.int .u8 (a.a.fam : Nat), V64 a.a.hi, V64 a.a.lo, S a.owner, V64 a.til, .int .u8 (a.pool.a.fam : Nat), V64 a.pool.a.hi, V64 a.pool.a.lo, .int .i64 a.pool.bits, .bool a.has, .bool a.held, .bool a.live, V64 a.clock, .slice r a.rows.length rc, .slice v a.events.length vc, .slice p a.pools.length pc]) rfl (by kernel_rfl) (by kernel_rfl) (by kernel_rfl) (fun _ _ _ h => h) (yieldsB (by rfl) _ _ (by rfl) (by rfl) (fun wx h => h.1.2) structAns 16 infoAns (by rfl)) hHeld ?_
        simp only [Act.put, nrm]
        refine wpAnyH_take (i := 2) (v := ?_) rfl (by kernel_rfl) (by kernel_rfl) (by kernel_rfl) (fun _ _ _ h => h) (Or.inl ⟨by rfl, ?_⟩) hHeld ?_
        rotate_left
        · intro wq hSw; go_simp; (try with_reducible rfl)
        simp only [Act.put, nrm]
        refine wpAnyH_one (i := 3) (by kernel_rfl) rfl (fun K hK => ?_)
        simp only [nrm]
        rw [if_pos (by rfl)]
        refine wp_stB _ _ _ (by rfl) hHeld.1.1 _ _ (by rfl) (by rfl) 15 15 (by rfl) (by rfl) (by decide) infoCall (by rfl) (by rfl) ?_
        intro v1 hz' hbSv1
        have hSv1 : (Bx v1 w.heap.size 28 #[.int .u8 (h.1 : Nat), .int .u8 (h.2.1 : Nat), V64 h.2.2, .int .u8 0, .int .u64 0, .int .u64 0, .int .i64 0, .int .u8 0, .int .u64 0, .int .u64 0, .string ⟨#[]⟩, .string ⟨#[]⟩, .int .u64 0, .int .u64 0, .int .i64 0] ∧ Bx v1 (w.heap.size + 1) 36 #[.int .u8 (a.a.fam : Nat), V64 a.a.hi, V64 a.a.lo, S a.owner, V64 a.til, .int .u8 (a.pool.a.fam : Nat), V64 a.pool.a.hi, V64 a.pool.a.lo, .int .i64 a.pool.bits, .bool a.has, .bool a.held, .bool a.live, V64 a.clock, .slice r a.rows.length rc, .slice v a.events.length vc, .slice p a.pools.length pc]) ∧ (OwnAns v1 w.heap.size a r rc v vc p pc ∧ Below w.heap.size w v1) := ⟨⟨hz', hHeld.1.2.but hbSv1 (by omega)⟩, hHeld.2.1.but hHeld.1.1 ⟨by decide, by decide, by decide⟩ hbSv1, hHeld.2.2.trans (hbSv1.below (Nat.le_refl _) hHeld.2.2.size)⟩
        refine hK.out _ _ hSv1 ?_
        simp only [Act.put, nrm]
        clear hK K
        refine wpAnyH_one (i := 4) (by kernel_rfl) rfl (fun K hK => ?_)
        simp only [nrm]
        rw [if_pos (by rfl)]
        refine wp_stB _ _ _ (by rfl) hSv1.1.2 _ _ (by rfl) (by rfl) 16 16 (by rfl) (by rfl) (by decide) infoAns (by rfl) (by rfl) ?_
        intro v2 hz' hbSv2
        have hSv2 : (Bx v2 w.heap.size 28 #[.int .u8 (h.1 : Nat), .int .u8 (h.2.1 : Nat), V64 h.2.2, .int .u8 0, .int .u64 0, .int .u64 0, .int .i64 0, .int .u8 0, .int .u64 0, .int .u64 0, .string ⟨#[]⟩, .string ⟨#[]⟩, .int .u64 0, .int .u64 0, .int .i64 0] ∧ Bx v2 (w.heap.size + 1) 36 #[.int .u8 (a.a.fam : Nat), V64 a.a.hi, V64 a.a.lo, S a.owner, V64 a.til, .int .u8 (a.pool.a.fam : Nat), V64 a.pool.a.hi, V64 a.pool.a.lo, .int .i64 a.pool.bits, .bool a.has, .bool a.held, .bool a.live, V64 a.clock, .slice r a.rows.length rc, .slice v a.events.length vc, .slice p a.pools.length pc]) ∧ (OwnAns v2 w.heap.size a r rc v vc p pc ∧ Below w.heap.size w v2) := ⟨⟨hSv1.1.1.but hbSv2 (by omega), hz'⟩, hSv1.2.1.but hSv1.1.2 ⟨by decide, by decide, by decide⟩ hbSv2, hSv1.2.2.trans (hbSv2.below (Nat.le_succ _) hSv1.2.2.size)⟩
        refine hK.out _ _ hSv2 ?_
        simp only [Act.put, nrm]
        clear hK K
        refine wpAnyH_take (i := 5) (v := ?_) rfl (by kernel_rfl) (by kernel_rfl) (by kernel_rfl) (fun _ _ _ h => h) (Or.inl ⟨by rfl, ?_⟩) hSv2 ?_
        rotate_left
        · intro wq hSw; go_simp; (try with_reducible rfl)
        simp only [Act.put, nrm]
        refine wpAnyH_take (i := 6) (v := ?_) rfl (by kernel_rfl) (by kernel_rfl) (by kernel_rfl) (fun _ _ _ h => h) (Or.inl ⟨by rfl, ?_⟩) hSv2 ?_
        rotate_left
        · intro wq hSw; go_simp; (try with_reducible rfl)
        simp only [Act.put, nrm]
        refine wpAnyH_done (by kernel_rfl) ?_ _
        go_wp2_with fail
        exact bodyPost_ret (results_box4 rfl (by rfl) (by rfl) (loadB hSv2.1.1 structCall infoCall rfl) (loadB hSv2.1.2 structAns infoAns rfl)) rfl ⟨r, rc, v, vc, p, pc, by obtain ⟨c1, c2, c3⟩ := HC.out Hyes.out; rw [c1, c2, c3, Hyes.out]; rfl, by obtain ⟨c1, c2, c3⟩ := HC.out Hyes.out; rw [c2]; exact hSv2.2.1, hSv2.2.2⟩
  | false =>
    go_upto_region 7 with (first
      | (go_at_call 50; (with_reducible refine (HK.out _).mono ?_); rintro e' w4 ⟨rfl, hb4⟩; have hc4 := hc3.up hb4; have ha4 := ha3.up hb4; have hx4 := hx3.up hb4; have hA4 := Chain.up hA3 hb4)
      | (refine wpList_stV (by rfl) _ _ _ (by rfl) hx4 _ _ (by rfl) (by rfl) (by rfl) (by rfl) 2 (by rfl) (by decide) infoBool (by rfl) ?_; intro w5 hz' hb5; have hx5 : RdX w5 (w.heap.size + 1 + 1) (s2, (!kn)) := hz'; clear hz'; have hc5 := hc4.but hb5 (by omega); have ha5 := ha4.but hb5 (by omega); have hA5 := hA4.trans (hb5.below (B := w.heap.size) (by omega) hA4.size); have hcc5 : w5.cell? ⟨w.heap.size, 0, none⟩ = some (.int .u8 (h.1 : Nat)) := hc5.cell 0)
      | (go_at_call 67; (with_reducible refine (HT1.out _ hx5).mono ?_); rintro e' w6 ⟨r, rc, v, vc, p, pc, rfl, hown6, hx6, hb6⟩; have hc6 := hc5.but hb6 (by omega); have ha6 := ha5.but hb6 (by omega); have hA6 := hA5.trans (hb6.below (B := w.heap.size) (by omega) hA5.size); have hown6' := hown6.low hA5.size)
      | (refine wpList_stB (by rfl) _ _ _ (by rfl) ha6 _ _ (by rfl) (by rfl) 16 16 (by rfl) (by rfl) (by decide) infoAns (by rfl) (by rfl) ?_; intro w7 hz' hb'w7; have ha7 : Bx w7 (w.heap.size + 1) 36 #[.int .u8 (a.a.fam : Nat), V64 a.a.hi, V64 a.a.lo, S a.owner, V64 a.til, .int .u8 (a.pool.a.fam : Nat), V64 a.pool.a.hi, V64 a.pool.a.lo, .int .i64 a.pool.bits, .bool a.has, .bool a.held, .bool a.live, V64 a.clock, .slice r a.rows.length rc, .slice v a.events.length vc, .slice p a.pools.length pc] := hz'; clear hz'; have hc7 := hc6.but hb'w7 (by omega); have hown7 := hown6'.but ha6 ⟨by decide, by decide, by decide⟩ hb'w7; skip))
    have hx7 : RdX w7 (w.heap.size + 1 + 1) q := Bx.but hx6 hb'w7 (by omega)
    have hA7 := hA6.trans (hb'w7.below (Nat.le_succ _) (by have := hA6.size; omega))
    have hokl := Hok.out
    clear Hok hc3 ha3 hx3 hA3 hx5 hc5 ha5 hA5 hcc5 hx6 hb6 hc6 ha6 hA6 hown6 hown6' hb'w7 hb5 HT1 HK hc4 ha4 hx4 hA4 hb4
    obtain ⟨s3, bad⟩ := q
    simp only at hokl
    obtain ⟨y0, y1, _, _⟩ := hx7.two
    cases bad with
    | true =>
      have Hno := Lib.hid (show P.hearOk s = false from hokl.trans rfl)
      go_wp2_with (first
        | (refine wpList_stB (by rfl) _ _ _ (by rfl) hc7 _ _ (by rfl) (by rfl) 15 15 (by rfl) (by rfl) (by decide) infoCall (by rfl) (by rfl) ?_; intro v1 hz' hb'v1; have hc9 : Bx v1 w.heap.size 28 #[.int .u8 0, .int .u8 0, .int .u64 0, .int .u8 0, .int .u64 0, .int .u64 0, .int .i64 0, .int .u8 0, .int .u64 0, .int .u64 0, .string ⟨#[]⟩, .string ⟨#[]⟩, .int .u64 0, .int .u64 0, .int .i64 0] := hz'; clear hz'; have ha9 := ha7.but hb'v1 (by omega); skip)
        | (refine wpList_stB (by rfl) _ _ _ (by rfl) ha9 _ _ (by rfl) (by rfl) 16 16 (by rfl) (by rfl) (by decide) infoAns (by rfl) (by rfl) ?_; intro v2 hz' hb'v2; have ha10 : Bx v2 (w.heap.size + 1) 36 #[.int .u8 0, .int .u64 0, .int .u64 0, .string ⟨#[]⟩, .int .u64 0, .int .u8 0, .int .u64 0, .int .u64 0, .int .i64 0, .bool false, .bool false, .bool false, .int .u64 0, .slice none 0 0, .slice none 0 0, .slice none 0 0] := hz'; clear hz'; have hc10 := hc9.but hb'v2 (by omega); skip))
      exact bodyPost_ret (results_box4 rfl (by rfl) (by rfl) (loadB hc10 structCall infoCall rfl) (loadB ha10 structAns infoAns rfl)) rfl ⟨none, 0, none, 0, none, 0, by have hno := Hno.out; unfold P.hearC P.hearA P.hearN; rw [hno]; rfl, OwnAns.none _ _ _ (by unfold P.hearA; rw [Hno.out]; rfl) (by unfold P.hearA; rw [Hno.out]; rfl) (by unfold P.hearA; rw [Hno.out]; rfl), (hA7.trans (hb'v1.below (Nat.le_refl _) hA7.size)).trans (hb'v2.below (Nat.le_succ _) (by have := hA7.size; have := hb'v1.size; omega))⟩
    | false =>
      cases s3 with
      | cons x3 t3 =>
        generalize hT : x3 :: t3 = T at *
        have hT2 : T.isEmpty = false := by rw [← hT]; rfl
        have hT3 : ¬ T = [] := by rw [← hT]; simp
        have Hno := Lib.hid (show P.hearOk s = false by rw [hokl]; simp [hT3])
        clear hT hokl
        go_wp2_with (first
          | (refine wpList_stB (by rfl) _ _ _ (by rfl) hc7 _ _ (by rfl) (by rfl) 15 15 (by rfl) (by rfl) (by decide) infoCall (by rfl) (by rfl) ?_; intro v1 hz' hb'v1; have hc9 : Bx v1 w.heap.size 28 #[.int .u8 0, .int .u8 0, .int .u64 0, .int .u8 0, .int .u64 0, .int .u64 0, .int .i64 0, .int .u8 0, .int .u64 0, .int .u64 0, .string ⟨#[]⟩, .string ⟨#[]⟩, .int .u64 0, .int .u64 0, .int .i64 0] := hz'; clear hz'; have ha9 := ha7.but hb'v1 (by omega); skip)
          | (refine wpList_stB (by rfl) _ _ _ (by rfl) ha9 _ _ (by rfl) (by rfl) 16 16 (by rfl) (by rfl) (by decide) infoAns (by rfl) (by rfl) ?_; intro v2 hz' hb'v2; have ha10 : Bx v2 (w.heap.size + 1) 36 #[.int .u8 0, .int .u64 0, .int .u64 0, .string ⟨#[]⟩, .int .u64 0, .int .u8 0, .int .u64 0, .int .u64 0, .int .i64 0, .bool false, .bool false, .bool false, .int .u64 0, .slice none 0 0, .slice none 0 0, .slice none 0 0] := hz'; clear hz'; have hc10 := hc9.but hb'v2 (by omega); skip))
        exact bodyPost_ret (results_box4 rfl (by rfl) (by rfl) (loadB hc10 structCall infoCall rfl) (loadB ha10 structAns infoAns rfl)) rfl ⟨none, 0, none, 0, none, 0, by have hno := Hno.out; unfold P.hearC P.hearA P.hearN; rw [hno]; rfl, OwnAns.none _ _ _ (by unfold P.hearA; rw [Hno.out]; rfl) (by unfold P.hearA; rw [Hno.out]; rfl) (by unfold P.hearA; rw [Hno.out]; rfl), (hA7.trans (hb'v1.below (Nat.le_refl _) hA7.size)).trans (hb'v2.below (Nat.le_succ _) (by have := hA7.size; have := hb'v1.size; omega))⟩
      | nil =>
        have Hyes := Lib.hid (show P.hearOk s = true from hokl.trans (by simp))
        clear hokl
        go_upto_region 9 with fail
        refine wp_region_held_drew (S := fun wx => (Bx wx w.heap.size 28 #[.int .u8 (h.1 : Nat), .int .u8 (h.2.1 : Nat), V64 h.2.2, .int .u8 0, .int .u64 0, .int .u64 0, .int .i64 0, .int .u8 0, .int .u64 0, .int .u64 0, .string ⟨#[]⟩, .string ⟨#[]⟩, .int .u64 0, .int .u64 0, .int .i64 0] ∧ Bx wx (w.heap.size + 1) 36 #[.int .u8 (a.a.fam : Nat), V64 a.a.hi, V64 a.a.lo, S a.owner, V64 a.til, .int .u8 (a.pool.a.fam : Nat), V64 a.pool.a.hi, V64 a.pool.a.lo, .int .i64 a.pool.bits, .bool a.has, .bool a.held, .bool a.live, V64 a.clock, .slice r a.rows.length rc, .slice v a.events.length vc, .slice p a.pools.length pc]) ∧ (OwnAns wx w.heap.size a r rc v vc p pc ∧ Below w.heap.size w wx)) (by kernel_rfl) ⟨⟨hc7.drew, ha7.drew⟩, (hown7).drew, hA7.drew⟩ (fun hHeld => ?_)
        refine wpAnyH_take (i := 0) (v := .agg #[.int .u8 (h.1 : Nat), .int .u8 (h.2.1 : Nat), V64 h.2.2, .int .u8 0, .int .u64 0, .int .u64 0, .int .i64 0, .int .u8 0, .int .u64 0, .int .u64 0, .string ⟨#[]⟩, .string ⟨#[]⟩, .int .u64 0, .int .u64 0, .int .i64 0]) rfl (by kernel_rfl) (by kernel_rfl) (by kernel_rfl) (fun _ _ _ h => h) (yieldsB (by rfl) _ _ (by rfl) (by rfl) (fun wx h => h.1.1) structCall 15 infoCall (by rfl)) hHeld ?_
        simp only [Act.put, nrm]
        refine wpAnyH_take (i := 1) (v := .agg #[.int .u8 (a.a.fam : Nat), V64 a.a.hi, V64 a.a.lo, S a.owner, V64 a.til, .int .u8 (a.pool.a.fam : Nat), V64 a.pool.a.hi, V64 a.pool.a.lo, .int .i64 a.pool.bits, .bool a.has, .bool a.held, .bool a.live, V64 a.clock, .slice r a.rows.length rc, .slice v a.events.length vc, .slice p a.pools.length pc]) rfl (by kernel_rfl) (by kernel_rfl) (by kernel_rfl) (fun _ _ _ h => h) (yieldsB (by rfl) _ _ (by rfl) (by rfl) (fun wx h => h.1.2) structAns 16 infoAns (by rfl)) hHeld ?_
        simp only [Act.put, nrm]
        refine wpAnyH_take (i := 2) (v := ?_) rfl (by kernel_rfl) (by kernel_rfl) (by kernel_rfl) (fun _ _ _ h => h) (Or.inl ⟨by rfl, ?_⟩) hHeld ?_
        rotate_left
        · intro wq hSw; go_simp; (try with_reducible rfl)
        simp only [Act.put, nrm]
        refine wpAnyH_one (i := 3) (by kernel_rfl) rfl (fun K hK => ?_)
        simp only [nrm]
        rw [if_pos (by rfl)]
        refine wp_stB _ _ _ (by rfl) hHeld.1.1 _ _ (by rfl) (by rfl) 15 15 (by rfl) (by rfl) (by decide) infoCall (by rfl) (by rfl) ?_
        intro v1 hz' hbSv1
        have hSv1 : (Bx v1 w.heap.size 28 #[.int .u8 (h.1 : Nat), .int .u8 (h.2.1 : Nat), V64 h.2.2, .int .u8 0, .int .u64 0, .int .u64 0, .int .i64 0, .int .u8 0, .int .u64 0, .int .u64 0, .string ⟨#[]⟩, .string ⟨#[]⟩, .int .u64 0, .int .u64 0, .int .i64 0] ∧ Bx v1 (w.heap.size + 1) 36 #[.int .u8 (a.a.fam : Nat), V64 a.a.hi, V64 a.a.lo, S a.owner, V64 a.til, .int .u8 (a.pool.a.fam : Nat), V64 a.pool.a.hi, V64 a.pool.a.lo, .int .i64 a.pool.bits, .bool a.has, .bool a.held, .bool a.live, V64 a.clock, .slice r a.rows.length rc, .slice v a.events.length vc, .slice p a.pools.length pc]) ∧ (OwnAns v1 w.heap.size a r rc v vc p pc ∧ Below w.heap.size w v1) := ⟨⟨hz', hHeld.1.2.but hbSv1 (by omega)⟩, hHeld.2.1.but hHeld.1.1 ⟨by decide, by decide, by decide⟩ hbSv1, hHeld.2.2.trans (hbSv1.below (Nat.le_refl _) hHeld.2.2.size)⟩
        refine hK.out _ _ hSv1 ?_
        simp only [Act.put, nrm]
        clear hK K
        refine wpAnyH_one (i := 4) (by kernel_rfl) rfl (fun K hK => ?_)
        simp only [nrm]
        rw [if_pos (by rfl)]
        refine wp_stB _ _ _ (by rfl) hSv1.1.2 _ _ (by rfl) (by rfl) 16 16 (by rfl) (by rfl) (by decide) infoAns (by rfl) (by rfl) ?_
        intro v2 hz' hbSv2
        have hSv2 : (Bx v2 w.heap.size 28 #[.int .u8 (h.1 : Nat), .int .u8 (h.2.1 : Nat), V64 h.2.2, .int .u8 0, .int .u64 0, .int .u64 0, .int .i64 0, .int .u8 0, .int .u64 0, .int .u64 0, .string ⟨#[]⟩, .string ⟨#[]⟩, .int .u64 0, .int .u64 0, .int .i64 0] ∧ Bx v2 (w.heap.size + 1) 36 #[.int .u8 (a.a.fam : Nat), V64 a.a.hi, V64 a.a.lo, S a.owner, V64 a.til, .int .u8 (a.pool.a.fam : Nat), V64 a.pool.a.hi, V64 a.pool.a.lo, .int .i64 a.pool.bits, .bool a.has, .bool a.held, .bool a.live, V64 a.clock, .slice r a.rows.length rc, .slice v a.events.length vc, .slice p a.pools.length pc]) ∧ (OwnAns v2 w.heap.size a r rc v vc p pc ∧ Below w.heap.size w v2) := ⟨⟨hSv1.1.1.but hbSv2 (by omega), hz'⟩, hSv1.2.1.but hSv1.1.2 ⟨by decide, by decide, by decide⟩ hbSv2, hSv1.2.2.trans (hbSv2.below (Nat.le_succ _) hSv1.2.2.size)⟩
        refine hK.out _ _ hSv2 ?_
        simp only [Act.put, nrm]
        clear hK K
        refine wpAnyH_take (i := 5) (v := ?_) rfl (by kernel_rfl) (by kernel_rfl) (by kernel_rfl) (fun _ _ _ h => h) (Or.inl ⟨by rfl, ?_⟩) hSv2 ?_
        rotate_left
        · intro wq hSw; go_simp; (try with_reducible rfl)
        simp only [Act.put, nrm]
        refine wpAnyH_take (i := 6) (v := ?_) rfl (by kernel_rfl) (by kernel_rfl) (by kernel_rfl) (fun _ _ _ h => h) (Or.inl ⟨by rfl, ?_⟩) hSv2 ?_
        rotate_left
        · intro wq hSw; go_simp; (try with_reducible rfl)
        simp only [Act.put, nrm]
        refine wpAnyH_done (by kernel_rfl) ?_ _
        go_wp2_with fail
        exact bodyPost_ret (results_box4 rfl (by rfl) (by rfl) (loadB hSv2.1.1 structCall infoCall rfl) (loadB hSv2.1.2 structAns infoAns rfl)) rfl ⟨r, rc, v, vc, p, pc, by obtain ⟨c1, c2, c3⟩ := HC.out Hyes.out; rw [c1, c2, c3, Hyes.out]; rfl, by obtain ⟨c1, c2, c3⟩ := HC.out Hyes.out; rw [c2]; exact hSv2.2.1, hSv2.2.2⟩
end Go.Proofs.YtcobfoiajdbahaaDoor
