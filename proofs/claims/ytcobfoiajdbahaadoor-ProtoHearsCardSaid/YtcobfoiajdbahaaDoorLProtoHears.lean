/- ProtoHears: what is heard of any bytes, or that they are no answer, is the document's. The walk of the law. -/
import Derived.Deep.DeepCutAuto
import Derived.Test.YtcobfoiajdbahaaDoorWQHear26F
import Derived.Test.YtcobfoiajdbahaaDoorWQLTold
import Derived.Test.YtcobfoiajdbahaaDoorWQAlike
import Derived.Test.YtcobfoiajdbahaaDoorWQLook
import Derived.Test.YtcobfoiajdbahaaDoorWQAwake
namespace Go.Proofs.YtcobfoiajdbahaaDoor
open Go.RowKit
set_option linter.unusedVariables false
set_option linter.unusedSimpArgs false
attribute [local go_sem high] eq_RefCall guardRefCall P.eqI_same
attribute [local go_sem] str_takeS
def afterSeqE : Nat → Code → Code
  | 0, c => c
  | n + 1, .seq _ b => afterSeqE n b
  | _, c => c
noncomputable def restE : Code := afterSeqE 2 ((Tryd.f6.body).getD .skip)
set_option maxRecDepth 1000000 in
set_option maxHeartbeats 16000000 in
theorem hears_rest (s : List UInt8) (w : World) (u1 u2 u3 u4 u5 u6 u7 u8 u9 u10 u11 u12 u13 u14 u15 u16 u17 u18 u19 u20 u21 u22 u23 u24 u25 u26 u27 u28 u29 u30 u31 u32 u33 u34 u35 u36 u37 u38 u39 u40 u41 u42 u43 u44 u45 u46 u47 u48 u49 u50 u51 u52 : Value) (hs : s.length ≤ 2000) (hu : UsesOk w) :
    Code.wp Tryd.prog restE (bodyPost Tryd.prog Tryd.f6 fun e' w' => e' = .returned (.bool true) ∧ Below w.heap.size w w') ⟨#[S s, u1, u2, u3, u4, u5, u6, u7, u8, u9, u10, u11, u12, u13, u14, u15, u16, u17, u18, u19, u20, u21, u22, u23, u24, u25, u26, u27, u28, u29, u30, u31, u32, u33, u34, u35, u36, u37, u38, u39, u40, u41, u42, u43, u44, u45, u46, u47, u48, u49, u50, u51, u52], []⟩ w := by
  dsimp only
  conv => arg 2; whnf
  have HH := Lib.hid (fun wx => hear_any s (by omega) wx)
  have HD := Lib.hid (fun wx => refHear_any s (by omega) wx)
  obtain ⟨-, e1, e2, e3⟩ := P.rh_hear s
  have e0 := (P.rh_hear s).1
  unfold HearD at HD
  rw [e0, e1, e2, e3] at HD
  obtain ⟨l1, l2, l3⟩ := P.hearA_lists s
  unfold HearDid at HH
  clear e0 e1 e2 e3
  generalize P.hearOk s = ok at *
  generalize P.hearC s = c at *
  generalize P.hearA s = a at *
  generalize P.hearN s = n at *
  go_upto_region 5 with (first
    | (go_at_call 23; (with_reducible refine (HH.out _).mono ?_); rintro e' x1 ⟨r, rc, v, vc, p, pc, rfl, hown1, hb1⟩; obtain ⟨y1, z1, hB1⟩ := two_bx x1 #[.int .u8 0, .int .u8 0, .int .u64 0, .int .u8 0, .int .u64 0, .int .u64 0, .int .i64 0, .int .u8 0, .int .u64 0, .int .u64 0, .string ⟨#[]⟩, .string ⟨#[]⟩, .int .u64 0, .int .u64 0, .int .i64 0] #[.int .u8 0, .int .u64 0, .int .u64 0, .string ⟨#[]⟩, .int .u64 0, .int .u8 0, .int .u64 0, .int .u64 0, .int .i64 0, .bool false, .bool false, .bool false, .int .u64 0, .slice none 0 0, .slice none 0 0, .slice none 0 0] 28 36)
    | (refine wpList_stB (by rfl) _ _ _ (by rfl) y1 _ _ (by rfl) (by rfl) 15 15 (by rfl) (by rfl) (by decide) infoCall (by rfl) (by rfl) ?_; intro u1w hz' hsu1w; have y2 : Bx u1w x1.heap.size 28 #[.int .u8 (c.op : Nat), .int .u8 (c.client : Nat), V64 c.number, .int .u8 (c.p.a.fam : Nat), V64 c.p.a.hi, V64 c.p.a.lo, .int .i64 c.p.bits, .int .u8 (c.a.fam : Nat), V64 c.a.hi, V64 c.a.lo, S c.owner, S c.to, V64 c.d, V64 c.fr, .int .i64 c.n] := hz'; clear hz'; have z2 := z1.but hsu1w (by omega); have hA2 := hB1.trans (hsu1w.below (Nat.le_refl _) hB1.size); clear y1 z1 hB1; skip)
    | (refine wpList_stB (by rfl) _ _ _ (by rfl) z2 _ _ (by rfl) (by rfl) 16 16 (by rfl) (by rfl) (by decide) infoAns (by rfl) (by rfl) ?_; intro u2w hz' hsu2w; have z3 : Bx u2w (x1.heap.size + 1) 36 #[.int .u8 (a.a.fam : Nat), V64 a.a.hi, V64 a.a.lo, S a.owner, V64 a.til, .int .u8 (a.pool.a.fam : Nat), V64 a.pool.a.hi, V64 a.pool.a.lo, .int .i64 a.pool.bits, .bool a.has, .bool a.held, .bool a.live, V64 a.clock, .slice r a.rows.length rc, .slice v a.events.length vc, .slice p a.pools.length pc] := hz'; clear hz'; have y3 := y2.but hsu2w (by omega); have hA3 := hA2.trans (hsu2w.below (Nat.le_succ _) hA2.size); have hc3 := Chain.up hb1 hA3; have own3 := hown1.up hA3; clear y2 z2 hA2 hA3; skip)
    | (go_at_call 26; (with_reducible refine (HD.out _).mono ?_); rintro e' x4 ⟨dr, drc, dv, dvc, dp, dpc, rfl, hown4, hb4⟩; have y4 := y3.up hb4; have z4 := z3.up hb4; have own4 := own3.up hb4; have hc4 := Chain.up hc3 hb4; obtain ⟨f4, g4, hB4⟩ := two_bx x4 #[.int .u8 0, .int .u8 0, .int .u64 0, .int .u8 0, .int .u64 0, .int .u64 0, .int .i64 0, .int .u8 0, .int .u64 0, .int .u64 0, .string ⟨#[]⟩, .string ⟨#[]⟩, .int .u64 0, .int .u64 0, .int .i64 0] #[.int .u8 0, .int .u64 0, .int .u64 0, .int .u8 0, .int .u64 0, .int .u64 0, .string ⟨#[]⟩, .int .u64 0, .int .u8 0, .int .u64 0, .int .u64 0, .int .i64 0, .bool false, .bool false, .bool false, .int .u64 0, .slice none 0 0, .slice none 0 0, .slice none 0 0] 46 62)
    | (refine wpList_stB (by rfl) _ _ _ (by rfl) f4 _ _ (by rfl) (by rfl) 15 15 (by rfl) (by rfl) (by decide) infoRC (by rfl) (by rfl) ?_; intro u5w hz' hsu5w; have f5 : Bx u5w x4.heap.size 46 #[.int .u8 (c.op : Nat), .int .u8 (c.client : Nat), V64 c.number, .int .u8 (c.p.a.fam : Nat), V64 c.p.a.hi, V64 c.p.a.lo, .int .i64 c.p.bits, .int .u8 (c.a.fam : Nat), V64 c.a.hi, V64 c.a.lo, S c.owner, S c.to, V64 c.d, V64 c.fr, .int .i64 c.n] := hz'; clear hz'; have g5 := g4.but hsu5w (by omega); have hA5 := hB4.trans (hsu5w.below (Nat.le_refl _) hB4.size); clear f4 g4 hB4; skip)
    | (refine wpList_stB (by rfl) _ _ _ (by rfl) g5 _ _ (by rfl) (by rfl) 19 19 (by rfl) (by rfl) (by decide) infoRAn (by rfl) (by rfl) ?_; intro u6w hz' hsu6w; have g6 : Bx u6w (x4.heap.size + 1) 62 #[.int .u8 (a.a.fam : Nat), V64 a.a.hi, V64 a.a.lo, .int .u8 0, .int .u64 0, .int .u64 0, S a.owner, V64 a.til, .int .u8 (a.pool.a.fam : Nat), V64 a.pool.a.hi, V64 a.pool.a.lo, .int .i64 a.pool.bits, .bool a.has, .bool a.held, .bool a.live, V64 a.clock, .slice dr a.rows.length drc, .slice dv a.events.length dvc, .slice dp a.pools.length dpc] := hz'; clear hz'; have f6 := f5.but hsu6w (by omega); have hA6 := hA5.trans (hsu6w.below (Nat.le_succ _) hA5.size); have hc6 := Chain.up hc4 hA6; have own6 := own4.up hA6; have y6 := y4.up hA6; have z6 := z4.up hA6; have down6 := hown4.up hA6; clear f5 g5 hA5 hA6 y4 z4 own4; skip))
  generalize x1.heap.size = gx at *
  generalize x4.heap.size = gy at *
  refine wp_region_held_drew (S := fun wx => Below u6w.heap.size u6w wx) (by kernel_rfl) (Below.refl _ _).drew (fun hHeld => ?_)
  refine wpAnyH_take (i := 0) (v := .agg #[.int .u8 (c.op : Nat), .int .u8 (c.client : Nat), V64 c.number, .int .u8 (c.p.a.fam : Nat), V64 c.p.a.hi, V64 c.p.a.lo, .int .i64 c.p.bits, .int .u8 (c.a.fam : Nat), V64 c.a.hi, V64 c.a.lo, S c.owner, S c.to, V64 c.d, V64 c.fr, .int .i64 c.n]) rfl (by kernel_rfl) (by kernel_rfl) (by kernel_rfl) (fun _ _ _ h => h) (yieldsB (by rfl) _ _ (by rfl) (by rfl) (fun wx h => y6.up h) structCall 15 infoCall (by rfl)) hHeld ?_
  simp only [Act.put, nrm]
  refine wpAnyH_take (i := 2) (v := .agg #[.int .u8 (c.op : Nat), .int .u8 (c.client : Nat), V64 c.number, .int .u8 (c.p.a.fam : Nat), V64 c.p.a.hi, V64 c.p.a.lo, .int .i64 c.p.bits, .int .u8 (c.a.fam : Nat), V64 c.a.hi, V64 c.a.lo, S c.owner, S c.to, V64 c.d, V64 c.fr, .int .i64 c.n]) rfl (by kernel_rfl) (by kernel_rfl) (by kernel_rfl) (fun _ _ _ h => h) (yieldsB (by rfl) _ _ (by rfl) (by rfl) (fun wx h => f6.up h) structRC 15 infoRC (by rfl)) hHeld ?_
  simp only [Act.put, nrm]
  refine wpAnyH_one (i := 1) (by kernel_rfl) rfl (fun K hK => ?_)
  simp only [nrm]
  go_simp
  (with_reducible refine (given26_any c _).mono ?_)
  rintro e w7 ⟨rfl, hb7⟩
  have hS7 := Chain.up hHeld hb7
  refine hK.out _ _ hS7 ?_
  clear hK K
  refine wpAnyH_take (i := 3) (v := ?_) rfl (by kernel_rfl) (by kernel_rfl) (by kernel_rfl) (fun _ _ _ h => h) (Or.inl ⟨by rfl, ?_⟩) hS7 ?_
  rotate_left
  · intro wq hSw; go_simp; (try with_reducible rfl)
  simp only [Act.put, nrm]
  refine wpAnyH_take (i := 4) (v := ?_) rfl (by kernel_rfl) (by kernel_rfl) (by kernel_rfl) (fun _ _ _ h => h) (Or.inl ⟨by rfl, ?_⟩) hS7 ?_
  rotate_left
  · intro wq hSw; go_simp; (try with_reducible rfl)
  simp only [Act.put, nrm]
  refine wpAnyH_take (i := 5) (v := .agg #[.int .u8 (a.a.fam : Nat), V64 a.a.hi, V64 a.a.lo, S a.owner, V64 a.til, .int .u8 (a.pool.a.fam : Nat), V64 a.pool.a.hi, V64 a.pool.a.lo, .int .i64 a.pool.bits, .bool a.has, .bool a.held, .bool a.live, V64 a.clock, .slice r a.rows.length rc, .slice v a.events.length vc, .slice p a.pools.length pc]) rfl (by kernel_rfl) (by kernel_rfl) (by kernel_rfl) (fun _ _ _ h => h) (yieldsB (by rfl) _ _ (by rfl) (by rfl) (fun wx h => z6.up h) structAns 16 infoAns (by rfl)) hS7 ?_
  simp only [Act.put, nrm]
  refine wpAnyH_take (i := 7) (v := .agg #[.int .u8 (a.a.fam : Nat), V64 a.a.hi, V64 a.a.lo, .int .u8 0, .int .u64 0, .int .u64 0, S a.owner, V64 a.til, .int .u8 (a.pool.a.fam : Nat), V64 a.pool.a.hi, V64 a.pool.a.lo, .int .i64 a.pool.bits, .bool a.has, .bool a.held, .bool a.live, V64 a.clock, .slice dr a.rows.length drc, .slice dv a.events.length dvc, .slice dp a.pools.length dpc]) rfl (by kernel_rfl) (by kernel_rfl) (by kernel_rfl) (fun _ _ _ h => h) (yieldsB (by rfl) _ _ (by rfl) (by rfl) (fun wx h => g6.up h) structRAn 19 infoRAn (by rfl)) hS7 ?_
  simp only [Act.put, nrm]
  refine wpAnyH_one (i := 6) (by kernel_rfl) rfl (fun K hK => ?_)
  simp only [nrm]
  rw [if_pos (by rfl)]
  go_simp
  (with_reducible refine (lawTold_any a r rc v vc p pc (by omega) (by omega) (by omega) _ (own6.up hS7).at).mono ?_)
  rintro e w8 ⟨r', rc', v', vc', p', pc', rfl, hown8, hb8⟩
  have hS8 := Chain.up hS7 hb8
  refine hK.out _ _ hS8 ?_
  clear hK K
  refine wpAnyH_one (i := 8) (by kernel_rfl) rfl (fun K hK => ?_)
  simp only [nrm]
  rw [if_pos (by rfl)]
  go_simp
  (with_reducible refine (alike_any a r' rc' v' vc' p' pc' dr drc dv dvc dp dpc (by omega) (by omega) (by omega) _ hown8.at (down6.up hS8).at).mono ?_)
  rintro e w9 ⟨rfl, hb9⟩
  have hS9 := Chain.up hS8 hb9
  refine hK.out _ _ hS9 ?_
  clear hK K
  refine wpAnyH_take (i := 9) (v := ?_) rfl (by kernel_rfl) (by kernel_rfl) (by kernel_rfl) (fun _ _ _ h => h) (Or.inl ⟨by rfl, ?_⟩) hS9 ?_
  rotate_left
  · intro wq hSw; go_simp; (try with_reducible rfl)
  simp only [Act.put, nrm]
  refine wpAnyH_take (i := 10) (v := ?_) rfl (by kernel_rfl) (by kernel_rfl) (by kernel_rfl) (fun _ _ _ h => h) (Or.inl ⟨by rfl, ?_⟩) hS9 ?_
  rotate_left
  · intro wq hSw; go_simp; (try with_reducible rfl)
  simp only [Act.put, nrm]
  refine wpAnyH_take (i := 11) (v := ?_) rfl (by kernel_rfl) (by kernel_rfl) (by kernel_rfl) (fun _ _ _ h => h) (Or.inl ⟨by rfl, ?_⟩) hS9 ?_
  rotate_left
  · intro wq hSw; go_simp; (try with_reducible rfl)
  simp only [Act.put, nrm]
  refine wpAnyH_take (i := 12) (v := ?_) rfl (by kernel_rfl) (by kernel_rfl) (by kernel_rfl) (fun _ _ _ h => h) (Or.inl ⟨by rfl, ?_⟩) hS9 ?_
  rotate_left
  · intro wq hSw; go_simp; (try with_reducible rfl)
  simp only [Act.put, nrm]
  refine wpAnyH_take (i := 13) (v := ?_) rfl (by kernel_rfl) (by kernel_rfl) (by kernel_rfl) (fun _ _ _ h => h) (Or.inl ⟨by rfl, ?_⟩) hS9 ?_
  rotate_left
  · intro wq hSw; go_simp; (try with_reducible rfl)
  simp only [Act.put, nrm]
  refine wpAnyH_take (i := 14) (v := ?_) rfl (by kernel_rfl) (by kernel_rfl) (by kernel_rfl) (fun _ _ _ h => h) (Or.inl ⟨by rfl, ?_⟩) hS9 ?_
  rotate_left
  · intro wq hSw; go_simp; (try with_reducible rfl)
  simp only [Act.put, nrm]
  refine wpAnyH_take (i := 15) (v := ?_) rfl (by kernel_rfl) (by kernel_rfl) (by kernel_rfl) (fun _ _ _ h => h) (Or.inl ⟨by rfl, ?_⟩) hS9 ?_
  rotate_left
  · intro wq hSw; go_simp; (try with_reducible rfl)
  simp only [Act.put, nrm]
  refine wpAnyH_take (i := 16) (v := ?_) rfl (by kernel_rfl) (by kernel_rfl) (by kernel_rfl) (fun _ _ _ h => h) (Or.inl ⟨by rfl, ?_⟩) hS9 ?_
  rotate_left
  · intro wq hSw; go_simp; (try with_reducible rfl)
  simp only [Act.put, nrm]
  refine wpAnyH_take (i := 17) (v := ?_) rfl (by kernel_rfl) (by kernel_rfl) (by kernel_rfl) (fun _ _ _ h => h) (Or.inl ⟨by rfl, ?_⟩) hS9 ?_
  rotate_left
  · intro wq hSw; go_simp; (try with_reducible rfl)
  simp only [Act.put, nrm]
  refine wpAnyH_take (i := 18) (v := ?_) rfl (by kernel_rfl) (by kernel_rfl) (by kernel_rfl) (fun _ _ _ h => h) (Or.inl ⟨by rfl, ?_⟩) hS9 ?_
  rotate_left
  · intro wq hSw; go_simp; (try with_reducible rfl)
  simp only [Act.put, nrm]
  refine wpAnyH_take (i := 19) (v := ?_) rfl (by kernel_rfl) (by kernel_rfl) (by kernel_rfl) (fun _ _ _ h => h) (Or.inl ⟨by rfl, ?_⟩) hS9 ?_
  rotate_left
  · intro wq hSw; go_simp; (try with_reducible rfl)
  simp only [Act.put, nrm]
  refine wpAnyH_take (i := 20) (v := ?_) rfl (by kernel_rfl) (by kernel_rfl) (by kernel_rfl) (fun _ _ _ h => h) (Or.inl ⟨by rfl, ?_⟩) hS9 ?_
  rotate_left
  · intro wq hSw; go_simp; (try with_reducible rfl)
  simp only [Act.put, nrm]
  refine wpAnyH_one (i := 21) (by kernel_rfl) rfl (fun K hK => ?_)
  simp only [nrm]
  rw [if_pos (by rfl)]
  go_simp
  (with_reducible refine (awake_any _ (hu.up (Chain.up hc6 hS9))).mono ?_)
  rintro e w10 ⟨rfl, hb10⟩
  have hS10 := Chain.up hS9 hb10
  refine hK.out _ _ hS10 ?_
  clear hK K
  refine wpAnyH_take (i := 22) (v := ?_) rfl (by kernel_rfl) (by kernel_rfl) (by kernel_rfl) (fun _ _ _ h => h) (Or.inl ⟨by rfl, ?_⟩) hS10 ?_
  rotate_left
  · intro wq hSw; go_simp; (try with_reducible rfl)
  simp only [Act.put, nrm]
  refine wpAnyH_take (i := 23) (v := ?_) rfl (by kernel_rfl) (by kernel_rfl) (by kernel_rfl) (fun _ _ _ h => h) (Or.inl ⟨by rfl, ?_⟩) hS10 ?_
  rotate_left
  · intro wq hSw; go_simp; (try with_reducible rfl)
  simp only [Act.put, nrm]
  refine wpAnyH_done (by kernel_rfl) ?_ _
  go_wp2_with fail
  go_ret
  exact ⟨rfl, Chain.up hc6 hS10⟩
set_option maxRecDepth 100000 in
set_option maxHeartbeats 8000000 in
/-- The law. -/
theorem law_hears (s : List UInt8) (w : World) (hb : s.length ≤ 9223372036854775807) (hu : UsesOk w) :
    Calls Tryd.prog 6 #[S s] w fun e' w' => e' = .returned (.bool true) ∧ Below w.heap.size w w' := by
  by_cases hl : s.length ≤ 2000
  · have hli : decide ((2000 : Int) < ((s.length : Nat) : Int)) = false := decide_eq_false (by omega)
    go_enter Tryd.func6, Tryd.ntmps6
    go_upto_region 1 with fail
    go_cut [0, 13] (fun s0 s13 wx => s0 = S s ∧ s13 = .bool false ∧ w = wx)
    case first =>
      go_wp2_with fail
      go_meet
      exact ⟨rfl, rfl, rfl⟩
    case rest =>
      obtain ⟨rfl, rfl, rfl⟩ := hcut
      rename_i K1 hK1 Kr hKr
      refine hKr _ _ ?_
      refine wp_cond_false (by rfl) (wp_skip ?_)
      show K1 _ _
      refine hK1 _ _ ?_
      exact hears_rest s w _ _ _ _ _ _ _ _ _ _ _ _ _ _ _ _ _ _ _ _ _ _ _ _ _ _ _ _ _ _ _ _ _ _ _ _ _ _ _ _ _ _ _ _ _ _ _ _ _ _ _ _ hl hu
  · have hli : (2000 : Int) < ((s.length : Nat) : Int) := by omega
    have hcut := str_takeS s 2000
    have hle : 2000 ≤ s.length := by omega
    have hs : (s.take 2000).length ≤ 2000 := by rw [List.length_take]; omega
    generalize s.take 2000 = t at *
    go_enter Tryd.func6, Tryd.ntmps6
    go_upto_region 2 with fail
    go_cut [0] (fun s0 wx => s0 = S t ∧ w = wx)
    case first =>
      go_wp2_with fail
      go_meet
      exact ⟨rfl, rfl⟩
    case rest =>
      obtain ⟨rfl, rfl⟩ := hcut
      rename_i Kr hKr
      refine hKr _ _ ?_
      exact hears_rest t w _ _ _ _ _ _ _ _ _ _ _ _ _ _ _ _ _ _ _ _ _ _ _ _ _ _ _ _ _ _ _ _ _ _ _ _ _ _ _ _ _ _ _ _ _ _ _ _ _ _ _ _ hs hu
end Go.Proofs.YtcobfoiajdbahaaDoor
