/- ProtoTells: the bytes of an answer that may be told, and what is heard of them, are the document's. The walk of the law. -/
import Derived.Deep.DeepCutAuto
import Derived.Test.YtcobfoiajdbahaaDoorWQGreat
import Derived.Test.YtcobfoiajdbahaaDoorWQTold26
import Derived.Test.YtcobfoiajdbahaaDoorWQAlike
import Derived.Test.YtcobfoiajdbahaaDoorWQTell26L
import Derived.Test.YtcobfoiajdbahaaDoorWQMay26L
import Derived.Test.YtcobfoiajdbahaaDoorWQLook
namespace Go.Proofs.YtcobfoiajdbahaaDoor
open Go.RowKit
set_option linter.unusedVariables false
set_option linter.unusedSimpArgs false
attribute [local go_sem high] eq_Call guardCall P.eqI_same
set_option maxRecDepth 1000000 in
set_option maxHeartbeats 16000000 in
theorem law_tells (x : P.Ca) (a : P.An) (r : Option Addr) (rc : Nat) (v : Option Addr) (vc : Nat) (p : Option Addr) (pc : Nat) (e : Int) (w : World) (hx : P.tyC x) (hxo : x.owner.length ≤ 9223372036854775807) (hxt : x.to.length ≤ 9223372036854775807) (ha : P.tyAn a) (hao : a.owner.length ≤ 9223372036854775807) (hro : ∀ y ∈ a.rows, y.owner.length ≤ 9223372036854775807) (heo : ∀ y ∈ a.events, y.owner.length ≤ 9223372036854775807) (hat : AnsAt w a r v p) (hu : UsesOk w) :
    Calls Tryd.prog 5 #[caV x, anV a r rc v vc p pc, .int .i64 e] w fun e' w' => e' = .returned (.bool true) ∧ Below w.heap.size w w' := by
  obtain ⟨y0, z0, hA0⟩ := two_bx w #[.int .u8 (x.op : Nat), .int .u8 (x.client : Nat), V64 x.number, .int .u8 (x.p.a.fam : Nat), V64 x.p.a.hi, V64 x.p.a.lo, .int .i64 x.p.bits, .int .u8 (x.a.fam : Nat), V64 x.a.hi, V64 x.a.lo, S x.owner, S x.to, V64 x.d, V64 x.fr, .int .i64 x.n] #[.int .u8 (a.a.fam : Nat), V64 a.a.hi, V64 a.a.lo, S a.owner, V64 a.til, .int .u8 (a.pool.a.fam : Nat), V64 a.pool.a.hi, V64 a.pool.a.lo, .int .i64 a.pool.bits, .bool a.has, .bool a.held, .bool a.live, V64 a.clock, .slice r a.rows.length rc, .slice v a.events.length vc, .slice p a.pools.length pc] 28 36
  go_enter Tryd.func5, Tryd.ntmps5
  go_upto_region 1 with fail
  generalize hW : (w.alloc (.cells #[.int .u8 (x.op : Nat), .int .u8 (x.client : Nat), V64 x.number, .int .u8 (x.p.a.fam : Nat), V64 x.p.a.hi, V64 x.p.a.lo, .int .i64 x.p.bits, .int .u8 (x.a.fam : Nat), V64 x.a.hi, V64 x.a.lo, S x.owner, S x.to, V64 x.d, V64 x.fr, .int .i64 x.n] 28)).alloc (.cells #[.int .u8 (a.a.fam : Nat), V64 a.a.hi, V64 a.a.lo, S a.owner, V64 a.til, .int .u8 (a.pool.a.fam : Nat), V64 a.pool.a.hi, V64 a.pool.a.lo, .int .i64 a.pool.bits, .bool a.has, .bool a.held, .bool a.live, V64 a.clock, .slice r a.rows.length rc, .slice v a.events.length vc, .slice p a.pools.length pc] 36) = w2 at *
  clear hW
  have hlt := z0.lt
  go_cut [23] (fun s23 wx => ∃ g : Bool, s23 = .bool (!g) ∧ (g = true → SmallA a ∧ P.greatC x = false ∧ (0 ≤ e ∧ e ≤ 255) ∧ (decide (e ≠ 0) || P.mayA x.op a) = true) ∧ Below w2.heap.size w2 wx)
  case first =>
    refine wp_region_held_drew (S := fun wx => Below w2.heap.size w2 wx) (by kernel_rfl) (Below.refl _ _).drew (fun hHeld => ?_)
    refine wpAnyH_take (i := 0) (v := .agg #[.int .u8 (x.op : Nat), .int .u8 (x.client : Nat), V64 x.number, .int .u8 (x.p.a.fam : Nat), V64 x.p.a.hi, V64 x.p.a.lo, .int .i64 x.p.bits, .int .u8 (x.a.fam : Nat), V64 x.a.hi, V64 x.a.lo, S x.owner, S x.to, V64 x.d, V64 x.fr, .int .i64 x.n]) rfl (by kernel_rfl) (by kernel_rfl) (by kernel_rfl) (fun _ _ _ h => h) (yieldsB (by rfl) _ _ (by rfl) (by rfl) (fun wx h => y0.up h) structCall 15 infoCall (by rfl)) hHeld ?_
    simp only [Act.put, nrm]
    refine wpAnyH_take (i := 1) (v := .agg #[.int .u8 (a.a.fam : Nat), V64 a.a.hi, V64 a.a.lo, S a.owner, V64 a.til, .int .u8 (a.pool.a.fam : Nat), V64 a.pool.a.hi, V64 a.pool.a.lo, .int .i64 a.pool.bits, .bool a.has, .bool a.held, .bool a.live, V64 a.clock, .slice r a.rows.length rc, .slice v a.events.length vc, .slice p a.pools.length pc]) rfl (by kernel_rfl) (by kernel_rfl) (by kernel_rfl) (fun _ _ _ h => h) (yieldsB (by rfl) _ _ (by rfl) (by rfl) (fun wx h => z0.up h) structAns 16 infoAns (by rfl)) hHeld ?_
    simp only [Act.put, nrm]
    refine wpAnyH_one (i := 2) (by kernel_rfl) rfl (fun K hK => ?_)
    simp only [nrm]
    go_simp
    (with_reducible refine (greatA_any x a r rc v vc p pc hxo hxt hao hro heo _ (hat.up (Chain.up hA0 hHeld))).mono ?_)
    rintro e' w3 ⟨b, rfl, hgr, hb3⟩
    have hS3 := Chain.up hHeld hb3
    refine hK.out _ _ hS3 ?_
    clear hK K
    refine wpAnyH_take (i := 3) (v := ?_) rfl (by kernel_rfl) (by kernel_rfl) (by kernel_rfl) (fun _ _ _ h => h) (Or.inl ⟨by rfl, ?_⟩) hS3 ?_
    rotate_left
    · intro wq hSw; go_simp; (try with_reducible rfl)
    simp only [Act.put, nrm]
    cases b with
    | true =>
      refine wpAnyH_take (i := 4) (v := undef) rfl (by kernel_rfl) (by kernel_rfl) (by kernel_rfl) (fun _ _ _ h => h) (Or.inr ⟨by rfl, rfl⟩) hS3 ?_
      simp only [Act.put, nrm]
      refine wpAnyH_take (i := 5) (v := undef) rfl (by kernel_rfl) (by kernel_rfl) (by kernel_rfl) (fun _ _ _ h => h) (Or.inr ⟨by rfl, rfl⟩) hS3 ?_
      simp only [Act.put, nrm]
      refine wpAnyH_take (i := 6) (v := undef) rfl (by kernel_rfl) (by kernel_rfl) (by kernel_rfl) (fun _ _ _ h => h) (Or.inr ⟨by rfl, rfl⟩) hS3 ?_
      simp only [Act.put, nrm]
      refine wpAnyH_take (i := 7) (v := undef) rfl (by kernel_rfl) (by kernel_rfl) (by kernel_rfl) (fun _ _ _ h => h) (Or.inr ⟨by rfl, rfl⟩) hS3 ?_
      simp only [Act.put, nrm]
      refine wpAnyH_take (i := 8) (v := undef) rfl (by kernel_rfl) (by kernel_rfl) (by kernel_rfl) (fun _ _ _ h => h) (Or.inr ⟨by rfl, rfl⟩) hS3 ?_
      simp only [Act.put, nrm]
      refine wpAnyH_take (i := 9) (v := undef) rfl (by kernel_rfl) (by kernel_rfl) (by kernel_rfl) (fun _ _ _ h => h) (Or.inr ⟨by rfl, rfl⟩) hS3 ?_
      simp only [Act.put, nrm]
      refine wpAnyH_take (i := 10) (v := undef) rfl (by kernel_rfl) (by kernel_rfl) (by kernel_rfl) (fun _ _ _ h => h) (Or.inr ⟨by rfl, rfl⟩) hS3 ?_
      simp only [Act.put, nrm]
      refine wpAnyH_take (i := 11) (v := ?_) rfl (by kernel_rfl) (by kernel_rfl) (by kernel_rfl) (fun _ _ _ h => h) (Or.inl ⟨by rfl, ?_⟩) hS3 ?_
      rotate_left
      · intro wq hSw; go_simp; (try with_reducible rfl)
      simp only [Act.put, nrm]
      refine wpAnyH_done (by kernel_rfl) ?_ _
      go_wp2_with fail
      go_meet
      exact ⟨false, rfl, fun h => absurd h (by decide), hS3⟩
    | false =>
      obtain ⟨hsm, hgc⟩ := hgr rfl
      refine wpAnyH_take (i := 4) (v := ?_) rfl (by kernel_rfl) (by kernel_rfl) (by kernel_rfl) (fun _ _ _ h => h) (Or.inl ⟨by rfl, ?_⟩) hS3 ?_
      rotate_left
      · intro wq hSw; go_simp; (try with_reducible rfl)
      simp only [Act.put, nrm]
      refine wpAnyH_take (i := 5) (v := ?_) rfl (by kernel_rfl) (by kernel_rfl) (by kernel_rfl) (fun _ _ _ h => h) (Or.inl ⟨by rfl, ?_⟩) hS3 ?_
      rotate_left
      · intro wq hSw; have hq := (y0.up hSw).cell 0; simp only [List.getElem?_toArray, List.getElem?_cons_succ, List.getElem?_cons_zero] at hq; go_simp; (try with_reducible rfl)
      simp only [Act.put, nrm]
      refine wpAnyH_take (i := 6) (v := .agg #[.int .u8 (a.a.fam : Nat), V64 a.a.hi, V64 a.a.lo, S a.owner, V64 a.til, .int .u8 (a.pool.a.fam : Nat), V64 a.pool.a.hi, V64 a.pool.a.lo, .int .i64 a.pool.bits, .bool a.has, .bool a.held, .bool a.live, V64 a.clock, .slice r a.rows.length rc, .slice v a.events.length vc, .slice p a.pools.length pc]) rfl (by kernel_rfl) (by kernel_rfl) (by kernel_rfl) (fun _ _ _ h => h) (yieldsB (by rfl) _ _ (by rfl) (by rfl) (fun wx h => z0.up h) structAns 16 infoAns (by rfl)) hS3 ?_
      simp only [Act.put, nrm]
      refine wpAnyH_take (i := 8) (v := ?_) rfl (by kernel_rfl) (by kernel_rfl) (by kernel_rfl) (fun _ _ _ h => h) (Or.inl ⟨by rfl, ?_⟩) hS3 ?_
      rotate_left
      · intro wq hSw; go_simp; (try with_reducible rfl)
      simp only [Act.put, nrm]
      refine wpAnyH_one (i := 7) (by kernel_rfl) rfl (fun K hK => ?_)
      simp only [nrm]
      rw [if_pos (by rfl)]
      go_simp
      (with_reducible refine (lawTold_any a r rc v vc p pc (Nat.le_trans hsm.rows (by decide)) (Nat.le_trans hsm.events (by decide)) (Nat.le_trans hsm.pools (by decide)) _ (hat.up (Chain.up hA0 hS3))).mono ?_)
      rintro e' w4 ⟨r1, rc1, v1, vc1, p1, pc1, rfl, hown, hb4⟩
      have hS4 := Chain.up hS3 hb4
      refine hK.out _ _ hS4 ?_
      clear hK K
      refine wpAnyH_one (i := 9) (by kernel_rfl) rfl (fun K hK => ?_)
      simp only [nrm]
      rw [if_pos (by rfl)]
      go_simp
      (with_reducible refine (refMay_any x.op a r1 rc1 v1 vc1 p1 pc1 e ha (Nat.le_trans hsm.owner (by decide)) ⟨Nat.le_trans hsm.rows (by decide), Nat.le_trans hsm.events (by decide), Nat.le_trans hsm.pools (by decide)⟩ (fun y hy => Nat.le_trans (hsm.ros y hy) (by decide)) (fun y hy => Nat.le_trans (hsm.eos y hy) (by decide)) _ hown.at).mono ?_)
      rintro e' w5 ⟨rfl, hb5⟩
      have hS5 := Chain.up hS4 hb5
      refine hK.out _ _ hS5 ?_
      clear hK K
      have hgood : (decide (0 ≤ e ∧ e ≤ 255) && (decide (e ≠ 0) || P.mayA x.op a)) = true → SmallA a ∧ P.greatC x = false ∧ (0 ≤ e ∧ e ≤ 255) ∧ (decide (e ≠ 0) || P.mayA x.op a) = true := fun h => by
        rw [Bool.and_eq_true, decide_eq_true_eq] at h
        exact ⟨hsm, hgc, h.1, h.2⟩
      generalize (decide (0 ≤ e ∧ e ≤ 255) && (decide (e ≠ 0) || P.mayA x.op a)) = g at *
      refine wpAnyH_take (i := 10) (v := ?_) rfl (by kernel_rfl) (by kernel_rfl) (by kernel_rfl) (fun _ _ _ h => h) (Or.inl ⟨by rfl, ?_⟩) hS5 ?_
      rotate_left
      · intro wq hSw; go_simp; (try with_reducible rfl)
      simp only [Act.put, nrm]
      refine wpAnyH_take (i := 11) (v := ?_) rfl (by kernel_rfl) (by kernel_rfl) (by kernel_rfl) (fun _ _ _ h => h) (Or.inl ⟨by rfl, ?_⟩) hS5 ?_
      rotate_left
      · intro wq hSw; go_simp; (try with_reducible rfl)
      simp only [Act.put, nrm]
      refine wpAnyH_done (by kernel_rfl) ?_ _
      go_wp2_with fail
      go_meet
      exact ⟨g, rfl, hgood, hS5⟩
  case rest =>
    obtain ⟨g, rfl, hgood, hb2⟩ := hcut
    have hA1 := Chain.up hA0 hb2
    have y1 := y0.up hb2
    have z1 := z0.up hb2
    generalize w2.heap.size = n2 at *
    clear y0 z0 hA0 hb2 hlt
    cases g with
    | false =>
      go_wp2_with (go_at_call 12; (with_reducible refine (awake_any _ (hu.up hA1)).mono ?_); rintro e' w3 ⟨rfl, hb3⟩)
      go_ret
      exact ⟨rfl, Chain.up hA1 hb3⟩
    | true =>
      obtain ⟨hsm, hgc, he, hmay⟩ := hgood rfl
      obtain ⟨m, rfl⟩ : ∃ m : Nat, e = (m : Int) := ⟨e.toNat, by omega⟩
      obtain ⟨hxo2, hxt2⟩ := P.greatC_no hgc
      have hm255 : m ≤ 255 := by omega
      have e2 : (decide (((m : Nat) : Int) ≠ 0)) = (decide (m ≠ 0)) := by rw [decide_eq_decide]; omega
      rw [e2] at hmay
      clear e2 hgood hgc he hxo hxt hao hro heo
      obtain ⟨b1, b2, b3⟩ : x.op < 256 ∧ x.client < 256 ∧ x.number < 18446744073709551616 := ⟨hx.1, hx.2.1, hx.2.2.1⟩
      obtain ⟨t1, t2⟩ := P.hear_told x.op x.client x.number a m b1 b2 b3 ha hm255 hmay
      have tlen := P.tellB_leT x.op x.client x.number a (m : Int) hsm.owner hsm.rows hsm.events hsm.pools hsm.ros hsm.eos
      have HT := Lib.hid (fun wx (hat : AnsAt wx a r v p) => tell_any x a r rc v vc p pc (m : Int) hx ha hsm wx hat)
      have HR := Lib.hid (fun q qc u uc s sc wx (hat : AnsD wx a q u s) => refTell_any x a q qc u uc s sc (m : Int) b1 b2 b3 ha (Nat.le_trans hsm.owner (by decide)) ⟨Nat.le_trans hsm.rows (by decide), Nat.le_trans hsm.events (by decide), Nat.le_trans hsm.pools (by decide)⟩ (fun y hy => Nat.le_trans (hsm.ros y hy) (by decide)) (fun y hy => Nat.le_trans (hsm.eos y hy) (by decide)) wx hat)
      have HG := Lib.hid (fun wx (hat : AnsAt wx a r v p) => lawTold_any a r rc v vc p pc (Nat.le_trans hsm.rows (by decide)) (Nat.le_trans hsm.events (by decide)) (Nat.le_trans hsm.pools (by decide)) wx hat)
      have HE := Lib.hid (fun wx => hear_any (P.tellB x.op x.client x.number a (m : Int)) tlen wx)
      unfold HearDid at HE
      have hlb := P.toldE_lists x.op a (m : Int) hsm.rows hsm.events hsm.pools
      have HB := Lib.hid (fun q qc u uc s sc wx (hat : AnsD wx a q u s) => told26_any x.op a q qc u uc s sc (m : Int) wx hat)
      unfold ToldD at HB
      have hkd : (decide (m ≠ 0) || P.knownB x.op) = true → ¬ (m = 0 ∧ (x.op < 1 ∨ 15 < x.op)) := by
        intro h hh
        unfold P.knownB at h
        simp only [Bool.or_eq_true, decide_eq_true_eq] at h
        omega
      have hkn : (decide (m ≠ 0) || P.knownB x.op) = false → m = 0 ∧ (x.op < 1 ∨ 15 < x.op) := by
        intro h
        unfold P.knownB at h
        simp only [Bool.or_eq_false_iff, decide_eq_false_iff_not] at h
        omega
      rw [t1] at HE
      generalize P.tellB x.op x.client x.number a (m : Int) = T at *
      generalize P.toldE x.op a (m : Int) = b at *
      generalize hkk : (decide (m ≠ 0) || P.knownB x.op) = kn at *
      clear hkk t1 hmay tlen
      go_upto_region 4 with (first
        | (refine wpList_ldB (by rfl) _ _ (by rfl) y1 (by rfl) structCall 15 infoCall (by rfl) ?_)
        | (refine wpList_ldB (by rfl) _ _ (by rfl) z1 (by rfl) structAns 16 infoAns (by rfl) ?_)
        | (go_at_call 21; (with_reducible refine (HT.out _ (hat.up hA1)).mono ?_); rintro e' w4 ⟨rfl, hb4⟩; have y4 := y1.up hb4; have z4 := z1.up hb4; have hA4 := Chain.up hA1 hb4))
      clear y1 z1
      go_cut [36] (fun s36 wx => s36 = .bool false ∧ Below w4.heap.size w4 wx)
      case first =>
        refine wp_region_held_drew (S := fun wx => Below w4.heap.size w4 wx) (by kernel_rfl) (Below.refl _ _).drew (fun hHeld => ?_)
        refine wpAnyH_take (i := 0) (v := ?_) rfl (by kernel_rfl) (by kernel_rfl) (by kernel_rfl) (fun _ _ _ h => h) (Or.inl ⟨by rfl, ?_⟩) hHeld ?_
        rotate_left
        · intro wq hSw; go_simp; (try with_reducible rfl)
        simp only [Act.put, nrm]
        refine wpAnyH_take (i := 1) (v := .agg #[.int .u8 (x.op : Nat), .int .u8 (x.client : Nat), V64 x.number, .int .u8 (x.p.a.fam : Nat), V64 x.p.a.hi, V64 x.p.a.lo, .int .i64 x.p.bits, .int .u8 (x.a.fam : Nat), V64 x.a.hi, V64 x.a.lo, S x.owner, S x.to, V64 x.d, V64 x.fr, .int .i64 x.n]) rfl (by kernel_rfl) (by kernel_rfl) (by kernel_rfl) (fun _ _ _ h => h) (yieldsB (by rfl) _ _ (by rfl) (by rfl) (fun wx h => y4.up h) structCall 15 infoCall (by rfl)) hHeld ?_
        simp only [Act.put, nrm]
        refine wpAnyH_take (i := 3) (v := .agg #[.int .u8 (a.a.fam : Nat), V64 a.a.hi, V64 a.a.lo, S a.owner, V64 a.til, .int .u8 (a.pool.a.fam : Nat), V64 a.pool.a.hi, V64 a.pool.a.lo, .int .i64 a.pool.bits, .bool a.has, .bool a.held, .bool a.live, V64 a.clock, .slice r a.rows.length rc, .slice v a.events.length vc, .slice p a.pools.length pc]) rfl (by kernel_rfl) (by kernel_rfl) (by kernel_rfl) (fun _ _ _ h => h) (yieldsB (by rfl) _ _ (by rfl) (by rfl) (fun wx h => z4.up h) structAns 16 infoAns (by rfl)) hHeld ?_
        simp only [Act.put, nrm]
        refine wpAnyH_take (i := 5) (v := ?_) rfl (by kernel_rfl) (by kernel_rfl) (by kernel_rfl) (fun _ _ _ h => h) (Or.inl ⟨by rfl, ?_⟩) hHeld ?_
        rotate_left
        · intro wq hSw; go_simp; (try with_reducible rfl)
        simp only [Act.put, nrm]
        refine wpAnyH_one (i := 2) (by kernel_rfl) rfl (fun K hK => ?_)
        simp only [nrm]
        go_simp
        (with_reducible refine (given26_any x _).mono ?_)
        rintro e' w5 ⟨rfl, hbw5⟩
        have hSw5 := Chain.up hHeld hbw5
        refine hK.out _ _ hSw5 ?_
        clear hK K
        refine wpAnyH_one (i := 4) (by kernel_rfl) rfl (fun K hK => ?_)
        simp only [nrm]
        go_simp
        (with_reducible refine (HG.out _ (hat.up (Chain.up hA4 hSw5))).mono ?_)
        rintro e' w6 ⟨r1, rc1, v1, vc1, p1, pc1, rfl, hown, hb6⟩
        have hSw6 := Chain.up hSw5 hb6
        refine hK.out _ _ hSw6 ?_
        clear hK K
        refine wpAnyH_one (i := 6) (by kernel_rfl) rfl (fun K hK => ?_)
        simp only [nrm]
        go_simp
        (with_reducible refine (HR.out r1 rc1 v1 vc1 p1 pc1 _ hown.at).mono ?_)
        rintro e' w7 ⟨rfl, hbw7⟩
        have hSw7 := Chain.up hSw6 hbw7
        refine hK.out _ _ hSw7 ?_
        clear hK K
        refine wpAnyH_take (i := 7) (v := ?_) rfl (by kernel_rfl) (by kernel_rfl) (by kernel_rfl) (fun _ _ _ h => h) (Or.inl ⟨by rfl, ?_⟩) hSw7 ?_
        rotate_left
        · intro wq hSw; go_simp; (try with_reducible rfl)
        simp only [Act.put, nrm]
        refine wpAnyH_done (by kernel_rfl) ?_ _
        go_wp2_with fail
        go_meet
        exact ⟨rfl, hSw7⟩
      case rest =>
        obtain ⟨rfl, hb5⟩ := hcut
        have y5 := y4.up hb5
        have z5 := z4.up hb5
        have hA5 := Chain.up hA4 hb5
        generalize w4.heap.size = n4 at *
        clear y4 z4 hA4 hb5 HT HR
        go_upto_region 7 with (first
          | (go_at_call 23; (with_reducible refine (HE.out _).mono ?_); rintro e' x6 ⟨hr, hrc, hv, hvc, hp, hpc, rfl, hown6, hb6⟩; have y6 := y5.up hb6; have z6 := z5.up hb6; have hA6 := Chain.up hA5 hb6; obtain ⟨f6, g6, hB6⟩ := two_bx x6 #[.int .u8 0, .int .u8 0, .int .u64 0, .int .u8 0, .int .u64 0, .int .u64 0, .int .i64 0, .int .u8 0, .int .u64 0, .int .u64 0, .string ⟨#[]⟩, .string ⟨#[]⟩, .int .u64 0, .int .u64 0, .int .i64 0] #[.int .u8 0, .int .u64 0, .int .u64 0, .string ⟨#[]⟩, .int .u64 0, .int .u8 0, .int .u64 0, .int .u64 0, .int .i64 0, .bool false, .bool false, .bool false, .int .u64 0, .slice none 0 0, .slice none 0 0, .slice none 0 0] 28 36; generalize P.hearC T = hc at *; generalize P.hearA T = ba at *; generalize P.hearN T = hn at *)
          | (refine wpList_stB (by rfl) _ _ _ (by rfl) f6 _ _ (by rfl) (by rfl) 15 15 (by rfl) (by rfl) (by decide) infoCall (by rfl) (by rfl) ?_; intro u7w hz' hsu7w; have f7 : Bx u7w x6.heap.size 28 #[.int .u8 (hc.op : Nat), .int .u8 (hc.client : Nat), V64 hc.number, .int .u8 (hc.p.a.fam : Nat), V64 hc.p.a.hi, V64 hc.p.a.lo, .int .i64 hc.p.bits, .int .u8 (hc.a.fam : Nat), V64 hc.a.hi, V64 hc.a.lo, S hc.owner, S hc.to, V64 hc.d, V64 hc.fr, .int .i64 hc.n] := hz'; clear hz'; have g7 := g6.but hsu7w (by omega); have hA7 := hB6.trans (hsu7w.below (Nat.le_refl _) hB6.size); clear f6 g6 hB6; skip)
          | (refine wpList_stB (by rfl) _ _ _ (by rfl) g7 _ _ (by rfl) (by rfl) 16 16 (by rfl) (by rfl) (by decide) infoAns (by rfl) (by rfl) ?_; intro u8w hz' hsu8w; have g8 : Bx u8w (x6.heap.size + 1) 36 #[.int .u8 (ba.a.fam : Nat), V64 ba.a.hi, V64 ba.a.lo, S ba.owner, V64 ba.til, .int .u8 (ba.pool.a.fam : Nat), V64 ba.pool.a.hi, V64 ba.pool.a.lo, .int .i64 ba.pool.bits, .bool ba.has, .bool ba.held, .bool ba.live, V64 ba.clock, .slice hr ba.rows.length hrc, .slice hv ba.events.length hvc, .slice hp ba.pools.length hpc] := hz'; clear hz'; have f8 := f7.but hsu8w (by omega); have hA8 := hA7.trans (hsu8w.below (Nat.le_succ _) hA7.size); have hc8 := Chain.up hA6 hA8; have y8 := y6.up hA8; have z8 := z6.up hA8; have hown8 := hown6.up hA8; clear f7 g7 hA7 hA8 y6 z6 hA6 hown6; skip))
        generalize x6.heap.size = n6 at *
        clear y5 z5 hA5 HE
        obtain ⟨⟨c0, -⟩, -⟩ := y8.cells15
        cases kn with
        | false =>
          obtain ⟨hm0, hop⟩ := hkn rfl
          subst hm0
          by_cases h1 : x.op < 1
          · have d1 : decide (((x.op : Nat) : Int) < 1) = true := decide_eq_true (by omega)
            clear hkd hkn t2
            go_wp2_with (go_at_call 12; (with_reducible refine (awake_any _ (hu.up hc8)).mono ?_); rintro e' w9 ⟨rfl, hb9⟩)
            go_ret
            exact ⟨rfl, Chain.up hc8 hb9⟩
          · have d1 : decide (((x.op : Nat) : Int) < 1) = false := decide_eq_false (by omega)
            have d2 : decide ((15 : Int) < ((x.op : Nat) : Int)) = true := decide_eq_true (by omega)
            clear hkd hkn t2
            go_wp2_with (go_at_call 12; (with_reducible refine (awake_any _ (hu.up hc8)).mono ?_); rintro e' w9 ⟨rfl, hb9⟩)
            go_ret
            exact ⟨rfl, Chain.up hc8 hb9⟩
        | true =>
          obtain ⟨e1, e2, e3⟩ := t2 rfl
          subst e1
          obtain rfl : b = ba := e2.symm
          obtain rfl : m = hn := e3.symm
          have hk := hkd rfl
          clear t2 hkd hkn
          go_cut [55] (fun s55 wx => s55 = .bool false ∧ u8w = wx)
          case first =>
            by_cases hm0 : m = 0
            · subst hm0
              have d1 : decide (((x.op : Nat) : Int) < 1) = false := decide_eq_false (by omega)
              have d2 : decide ((15 : Int) < ((x.op : Nat) : Int)) = false := decide_eq_false (by omega)
              clear hk
              go_wp2_with fail
              go_meet
              exact ⟨rfl, rfl⟩
            · have d0 : (((m : Nat) : Int) == 0) = false := beq_eq_false_iff_ne.2 (by omega)
              clear hm0 hk
              go_wp2_with fail
              go_meet
              exact ⟨rfl, rfl⟩
          case rest =>
            obtain ⟨rfl, rfl⟩ := hcut
            go_upto_region 9 with fail
            refine wp_region_held_drew (S := fun wx => Below u8w.heap.size u8w wx) (by kernel_rfl) (Below.refl _ _).drew (fun hHeld => ?_)
            refine wpAnyH_take (i := 0) (v := ?_) rfl (by kernel_rfl) (by kernel_rfl) (by kernel_rfl) (fun _ _ _ h => h) (Or.inl ⟨by rfl, ?_⟩) hHeld ?_
            rotate_left
            · intro wq hSw; go_simp; (try with_reducible rfl)
            simp only [Act.put, nrm]
            refine wpAnyH_take (i := 1) (v := ?_) rfl (by kernel_rfl) (by kernel_rfl) (by kernel_rfl) (fun _ _ _ h => h) (Or.inl ⟨by rfl, ?_⟩) hHeld ?_
            rotate_left
            · intro wq hSw; go_simp; (try with_reducible rfl)
            simp only [Act.put, nrm]
            refine wpAnyH_take (i := 2) (v := .agg #[.int .u8 (x.op : Nat), .int .u8 (x.client : Nat), V64 x.number, .int .u8 0, .int .u64 0, .int .u64 0, .int .i64 0, .int .u8 0, .int .u64 0, .int .u64 0, .string ⟨#[]⟩, .string ⟨#[]⟩, .int .u64 0, .int .u64 0, .int .i64 0]) rfl (by kernel_rfl) (by kernel_rfl) (by kernel_rfl) (fun _ _ _ h => h) (yieldsB (by rfl) _ _ (by rfl) (by rfl) (fun wx h => f8.up h) structCall 15 infoCall (by rfl)) hHeld ?_
            simp only [Act.put, nrm]
            refine wpAnyH_take (i := 3) (v := ?_) rfl (by kernel_rfl) (by kernel_rfl) (by kernel_rfl) (fun _ _ _ h => h) (Or.inl ⟨by rfl, ?_⟩) hHeld ?_
            rotate_left
            · intro wq hSw; go_simp; (try with_reducible rfl)
            simp only [Act.put, nrm]
            refine wpAnyH_take (i := 4) (v := ?_) rfl (by kernel_rfl) (by kernel_rfl) (by kernel_rfl) (fun _ _ _ h => h) (Or.inl ⟨by rfl, ?_⟩) hHeld ?_
            rotate_left
            · intro wq hSw; have hq := (y8.up hSw).cell 0; simp only [List.getElem?_toArray, List.getElem?_cons_succ, List.getElem?_cons_zero] at hq; go_simp; (try with_reducible rfl)
            simp only [Act.put, nrm]
            refine wpAnyH_take (i := 5) (v := ?_) rfl (by kernel_rfl) (by kernel_rfl) (by kernel_rfl) (fun _ _ _ h => h) (Or.inl ⟨by rfl, ?_⟩) hHeld ?_
            rotate_left
            · intro wq hSw; go_simp; (try with_reducible rfl)
            simp only [Act.put, nrm]
            refine wpAnyH_take (i := 6) (v := ?_) rfl (by kernel_rfl) (by kernel_rfl) (by kernel_rfl) (fun _ _ _ h => h) (Or.inl ⟨by rfl, ?_⟩) hHeld ?_
            rotate_left
            · intro wq hSw; have hq := (y8.up hSw).cell 1; simp only [List.getElem?_toArray, List.getElem?_cons_succ, List.getElem?_cons_zero] at hq; go_simp; (try with_reducible rfl)
            simp only [Act.put, nrm]
            refine wpAnyH_take (i := 7) (v := ?_) rfl (by kernel_rfl) (by kernel_rfl) (by kernel_rfl) (fun _ _ _ h => h) (Or.inl ⟨by rfl, ?_⟩) hHeld ?_
            rotate_left
            · intro wq hSw; go_simp; (try with_reducible rfl)
            simp only [Act.put, nrm]
            refine wpAnyH_take (i := 8) (v := ?_) rfl (by kernel_rfl) (by kernel_rfl) (by kernel_rfl) (fun _ _ _ h => h) (Or.inl ⟨by rfl, ?_⟩) hHeld ?_
            rotate_left
            · intro wq hSw; have hq := (y8.up hSw).cell 2; simp only [List.getElem?_toArray, List.getElem?_cons_succ, List.getElem?_cons_zero] at hq; go_simp; (try with_reducible rfl)
            simp only [Act.put, nrm]
            refine wpAnyH_take (i := 9) (v := .agg #[.int .u8 (x.op : Nat), .int .u8 (x.client : Nat), V64 x.number, .int .u8 0, .int .u64 0, .int .u64 0, .int .i64 0, .int .u8 0, .int .u64 0, .int .u64 0, .string ⟨#[]⟩, .string ⟨#[]⟩, .int .u64 0, .int .u64 0, .int .i64 0]) rfl (by kernel_rfl) (by kernel_rfl) (by kernel_rfl) (fun _ _ _ h => h) (Or.inl ⟨by rfl, ?_⟩) hHeld ?_
            · intro wq hSw; go_simp; (try with_reducible rfl); (try rfl)
            simp only [Act.put, nrm]
            refine wpAnyH_take (i := 10) (v := ?_) rfl (by kernel_rfl) (by kernel_rfl) (by kernel_rfl) (fun _ _ _ h => h) (Or.inl ⟨by rfl, ?_⟩) hHeld ?_
            rotate_left
            · intro wq hSw; go_simp; (try with_reducible rfl)
            simp only [Act.put, nrm]
            refine wpAnyH_take (i := 11) (v := ?_) rfl (by kernel_rfl) (by kernel_rfl) (by kernel_rfl) (fun _ _ _ h => h) (Or.inl ⟨by rfl, ?_⟩) hHeld ?_
            rotate_left
            · intro wq hSw; go_simp; (try with_reducible rfl)
            simp only [Act.put, nrm]
            refine wpAnyH_take (i := 12) (v := ?_) rfl (by kernel_rfl) (by kernel_rfl) (by kernel_rfl) (fun _ _ _ h => h) (Or.inl ⟨by rfl, ?_⟩) hHeld ?_
            rotate_left
            · intro wq hSw; go_simp; (try with_reducible rfl)
            simp only [Act.put, nrm]
            refine wpAnyH_take (i := 13) (v := ?_) rfl (by kernel_rfl) (by kernel_rfl) (by kernel_rfl) (fun _ _ _ h => h) (Or.inl ⟨by rfl, ?_⟩) hHeld ?_
            rotate_left
            · intro wq hSw; go_simp; (try with_reducible rfl)
            simp only [Act.put, nrm]
            refine wpAnyH_take (i := 14) (v := ?_) rfl (by kernel_rfl) (by kernel_rfl) (by kernel_rfl) (fun _ _ _ h => h) (Or.inl ⟨by rfl, ?_⟩) hHeld ?_
            rotate_left
            · intro wq hSw; go_simp; (try with_reducible rfl)
            simp only [Act.put, nrm]
            refine wpAnyH_take (i := 15) (v := ?_) rfl (by kernel_rfl) (by kernel_rfl) (by kernel_rfl) (fun _ _ _ h => h) (Or.inl ⟨by rfl, ?_⟩) hHeld ?_
            rotate_left
            · intro wq hSw; go_simp; (try with_reducible rfl)
            simp only [Act.put, nrm]
            refine wpAnyH_take (i := 16) (v := ?_) rfl (by kernel_rfl) (by kernel_rfl) (by kernel_rfl) (fun _ _ _ h => h) (Or.inl ⟨by rfl, ?_⟩) hHeld ?_
            rotate_left
            · intro wq hSw; go_simp; (try with_reducible rfl)
            simp only [Act.put, nrm]
            refine wpAnyH_take (i := 17) (v := ?_) rfl (by kernel_rfl) (by kernel_rfl) (by kernel_rfl) (fun _ _ _ h => h) (Or.inl ⟨by rfl, ?_⟩) hHeld ?_
            rotate_left
            · intro wq hSw; go_simp; (try with_reducible rfl)
            simp only [Act.put, nrm]
            refine wpAnyH_take (i := 18) (v := .agg #[.int .u8 (b.a.fam : Nat), V64 b.a.hi, V64 b.a.lo, S b.owner, V64 b.til, .int .u8 (b.pool.a.fam : Nat), V64 b.pool.a.hi, V64 b.pool.a.lo, .int .i64 b.pool.bits, .bool b.has, .bool b.held, .bool b.live, V64 b.clock, .slice hr b.rows.length hrc, .slice hv b.events.length hvc, .slice hp b.pools.length hpc]) rfl (by kernel_rfl) (by kernel_rfl) (by kernel_rfl) (fun _ _ _ h => h) (yieldsB (by rfl) _ _ (by rfl) (by rfl) (fun wx h => g8.up h) structAns 16 infoAns (by rfl)) hHeld ?_
            simp only [Act.put, nrm]
            refine wpAnyH_take (i := 20) (v := ?_) rfl (by kernel_rfl) (by kernel_rfl) (by kernel_rfl) (fun _ _ _ h => h) (Or.inl ⟨by rfl, ?_⟩) hHeld ?_
            rotate_left
            · intro wq hSw; go_simp; (try with_reducible rfl)
            simp only [Act.put, nrm]
            refine wpAnyH_take (i := 21) (v := ?_) rfl (by kernel_rfl) (by kernel_rfl) (by kernel_rfl) (fun _ _ _ h => h) (Or.inl ⟨by rfl, ?_⟩) hHeld ?_
            rotate_left
            · intro wq hSw; have hq := (y8.up hSw).cell 0; simp only [List.getElem?_toArray, List.getElem?_cons_succ, List.getElem?_cons_zero] at hq; go_simp; (try with_reducible rfl)
            simp only [Act.put, nrm]
            refine wpAnyH_take (i := 22) (v := .agg #[.int .u8 (a.a.fam : Nat), V64 a.a.hi, V64 a.a.lo, S a.owner, V64 a.til, .int .u8 (a.pool.a.fam : Nat), V64 a.pool.a.hi, V64 a.pool.a.lo, .int .i64 a.pool.bits, .bool a.has, .bool a.held, .bool a.live, V64 a.clock, .slice r a.rows.length rc, .slice v a.events.length vc, .slice p a.pools.length pc]) rfl (by kernel_rfl) (by kernel_rfl) (by kernel_rfl) (fun _ _ _ h => h) (yieldsB (by rfl) _ _ (by rfl) (by rfl) (fun wx h => z8.up h) structAns 16 infoAns (by rfl)) hHeld ?_
            simp only [Act.put, nrm]
            refine wpAnyH_take (i := 24) (v := ?_) rfl (by kernel_rfl) (by kernel_rfl) (by kernel_rfl) (fun _ _ _ h => h) (Or.inl ⟨by rfl, ?_⟩) hHeld ?_
            rotate_left
            · intro wq hSw; go_simp; (try with_reducible rfl)
            simp only [Act.put, nrm]
            refine wpAnyH_one (i := 19) (by kernel_rfl) rfl (fun K hK => ?_)
            simp only [nrm]
            rw [if_pos (by rfl)]
            go_simp
            (with_reducible refine (lawTold_any b hr hrc hv hvc hp hpc (by omega) (by omega) (by omega) _ (hown8.up hHeld).at).mono ?_)
            rintro e' w9 ⟨r1, rc1, v1, vc1, p1, pc1, rfl, hown1, hb9⟩
            have hS9 := Chain.up hHeld hb9
            refine hK.out _ _ hS9 ?_
            clear hK K
            refine wpAnyH_one (i := 23) (by kernel_rfl) rfl (fun K hK => ?_)
            simp only [nrm]
            rw [if_pos (by rfl)]
            go_simp
            (with_reducible refine (HG.out _ (hat.up (Chain.up hc8 hS9))).mono ?_)
            rintro e' w10 ⟨r2, rc2, v2, vc2, p2, pc2, rfl, hown2, hb10⟩
            have hS10 := Chain.up hS9 hb10
            have own1 := hown1.up hb10
            refine hK.out _ _ hS10 ?_
            clear hK K
            refine wpAnyH_one (i := 25) (by kernel_rfl) rfl (fun K hK => ?_)
            simp only [nrm]
            rw [if_pos (by rfl)]
            go_simp
            (with_reducible refine (HB.out r2 rc2 v2 vc2 p2 pc2 _ hown2.at).mono ?_)
            rintro e' w11 ⟨r3, rc3, v3, vc3, p3, pc3, rfl, hat3, hb11⟩
            have hS11 := Chain.up hS10 hb11
            have own1b := own1.up hb11
            refine hK.out _ _ hS11 ?_
            clear hK K
            refine wpAnyH_one (i := 26) (by kernel_rfl) rfl (fun K hK => ?_)
            simp only [nrm]
            rw [if_pos (by rfl)]
            go_simp
            (with_reducible refine (alike_any b r1 rc1 v1 vc1 p1 pc1 r3 rc3 v3 vc3 p3 pc3 (by omega) (by omega) (by omega) _ own1b.at hat3).mono ?_)
            rintro e' w12 ⟨rfl, hb12⟩
            have hS12 := Chain.up hS11 hb12
            refine hK.out _ _ hS12 ?_
            clear hK K
            refine wpAnyH_take (i := 27) (v := ?_) rfl (by kernel_rfl) (by kernel_rfl) (by kernel_rfl) (fun _ _ _ h => h) (Or.inl ⟨by rfl, ?_⟩) hS12 ?_
            rotate_left
            · intro wq hSw; go_simp; (try with_reducible rfl)
            simp only [Act.put, nrm]
            refine wpAnyH_take (i := 28) (v := ?_) rfl (by kernel_rfl) (by kernel_rfl) (by kernel_rfl) (fun _ _ _ h => h) (Or.inl ⟨by rfl, ?_⟩) hS12 ?_
            rotate_left
            · intro wq hSw; go_simp; (try with_reducible rfl)
            simp only [Act.put, nrm]
            refine wpAnyH_one (i := 29) (by kernel_rfl) rfl (fun K hK => ?_)
            simp only [nrm]
            rw [if_pos (by rfl)]
            go_simp
            (with_reducible refine (awake_any _ (hu.up (Chain.up hc8 hS12))).mono ?_)
            rintro e' w13 ⟨rfl, hb13⟩
            have hS13 := Chain.up hS12 hb13
            refine hK.out _ _ hS13 ?_
            clear hK K
            refine wpAnyH_take (i := 30) (v := ?_) rfl (by kernel_rfl) (by kernel_rfl) (by kernel_rfl) (fun _ _ _ h => h) (Or.inl ⟨by rfl, ?_⟩) hS13 ?_
            rotate_left
            · intro wq hSw; go_simp; (try with_reducible rfl)
            simp only [Act.put, nrm]
            refine wpAnyH_take (i := 31) (v := ?_) rfl (by kernel_rfl) (by kernel_rfl) (by kernel_rfl) (fun _ _ _ h => h) (Or.inl ⟨by rfl, ?_⟩) hS13 ?_
            rotate_left
            · intro wq hSw; go_simp; (try with_reducible rfl)
            simp only [Act.put, nrm]
            refine wpAnyH_done (by kernel_rfl) ?_ _
            go_wp2_with fail
            go_ret
            exact ⟨rfl, Chain.up hc8 hS13⟩
end Go.Proofs.YtcobfoiajdbahaaDoor
