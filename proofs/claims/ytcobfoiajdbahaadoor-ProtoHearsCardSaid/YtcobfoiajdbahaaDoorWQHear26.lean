/- The walk of the document's Hear. -/
import Derived.Test.YtcobfoiajdbahaaDoorWQTell26L
import Derived.Test.YtcobfoiajdbahaaDoorWQHeardL
import Derived.Test.YtcobfoiajdbahaaDoorPHear3
namespace Go.Proofs.YtcobfoiajdbahaaDoor
open Go.RowKit
set_option linter.unusedVariables false
set_option linter.unusedSimpArgs false
attribute [local go_sem] str_dropS str_takeS
def HearD (s : List UInt8) (w : World) (e : Ending) (w' : World) : Prop := ∃ r rc v vc p pc, e = .returned (.tuple #[caV (P.rhC s), raV (P.rhA s) r rc v vc p pc, .int .i64 ((P.rhN s : Nat) : Int), .bool (P.rhOk s)]) ∧ OwnD w' w.heap.size (P.rhA s) r rc v vc p pc ∧ Below w.heap.size w w'
theorem three_bxD (w : World) (A B C : Array Value) (t u q : TypeId) : Bx (((w.alloc (.cells A t)).alloc (.cells B u)).alloc (.cells C q)) w.heap.size t A ∧ Bx (((w.alloc (.cells A t)).alloc (.cells B u)).alloc (.cells C q)) (w.heap.size + 1) u B ∧ Bx (((w.alloc (.cells A t)).alloc (.cells B u)).alloc (.cells C q)) (w.heap.size + 1 + 1) q C ∧ Below w.heap.size w (((w.alloc (.cells A t)).alloc (.cells B u)).alloc (.cells C q)) := by
  obtain ⟨h1, h2, hA⟩ := two_bx w A B t u
  have h3 := Bx.fresh ((w.alloc (.cells A t)).alloc (.cells B u)) q C
  rw [World.size_alloc, World.size_alloc] at h3
  exact ⟨h1.alloc _, h2.alloc _, h3, hA.alloc hA.size _⟩
theorem wpList_takeV {P : Program} {ops : Array Oper} {rest : List Oper} {op : Oper} {a : Act} {w : World} {Q : Exit → Act → World → Prop} {v : Value} (hw : Region.wanted op (yielded ops a.tmps) = true) (hr : (execOp a.eval op).run P w = .ok (.value v) w) (h : wpList P ops Q rest (a.put op.dst v) w) : wpList P ops Q (op :: rest) a w :=
  wpList_step fun K hK => by
    rw [if_pos hw]
    unfold Oper.wp
    rw [hr, Oper.upon_value]
    exact hK _ _ h
theorem wpList_ldBG {P : Program} {ops : Array Oper} {rest : List Oper} {op : Oper} {a : Act} {w : World} {Q : Exit → Act → World → Prop} (hw : Region.wanted op (yielded ops a.tmps) = true) (ty : TypeId) (x : Operand) (ho : op.op = .load ty x)
    {g : Nat} {t : TypeId} {cs : Array Value} (hbx : Bx w g t cs) (hx : a.eval x = .pointer (some ⟨g, 0, none⟩)) {fs : Array Field} (hu : P.underlying ty = some (.struct fs)) (n : Nat) (hi : (P.info? ty).map (·.size) = some n) (hN : cs.size = n)
    (h : wpList P ops Q rest (a.put op.dst (.agg cs)) w) : wpList P ops Q (op :: rest) a w := by
  have key : wpList P ops Q ({ op with guard := none } :: rest) a w := wpList_ldB rfl ty x ho hbx hx hu n hi hN h
  unfold wpList at key ⊢
  rw [if_pos hw]
  have h1 : Region.wanted { op with guard := none } (yielded ops a.tmps) = true := rfl
  rw [if_pos h1] at key
  exact key
theorem OwnD.but {w w' : World} {B : Nat} {a : P.An} {r v p : Option Addr} {rc vc pc : Nat} (h : OwnD w B a r rc v vc p pc) {g : Nat} {t : TypeId} {c : Array Value} (hx : Bx w g t c) (ht : t ≠ 57 ∧ t ≠ 126 ∧ t ≠ 44) (hb : But g w w') : OwnD w' B a r rc v vc p pc :=
  ⟨h.1.but hx ht.1 hb, h.2.but hx ht.2.1 hb, h.3.but hx ht.2.2 hb⟩
theorem OwnD.low {w : World} {B B' : Nat} {a : P.An} {r v p : Option Addr} {rc vc pc : Nat} (h : OwnD w B a r rc v vc p pc) (hB : B' ≤ B) : OwnD w B' a r rc v vc p pc := ⟨h.1.low hB, h.2.low hB, h.3.low hB⟩
theorem P.rh_not {s : List UInt8} (h : P.rhOk s = false) : P.rhC s = P.noC ∧ P.rhA s = P.noAn ∧ P.rhN s = 0 := by
  unfold P.rhC P.rhA P.rhN
  rw [h]
  exact ⟨rfl, rfl, rfl⟩
def afterSeqH : Nat → Code → Code
  | 0, c => c
  | n + 1, .seq _ b => afterSeqH n b
  | _, c => c
noncomputable def restH : Code := afterSeqH 9 ((Tryd.f26.body).getD .skip)
set_option maxRecDepth 1000000 in
set_option maxHeartbeats 16000000 in
theorem hear_rest (s r0 : List UInt8) (e op cl nu : Nat) (an rA : P.An) (rC : P.Ca) (rN : Nat) (ok : Bool) (r : Option Addr) (rc : Nat) (v : Option Addr) (vc : Nat) (p : Option Addr) (pc : Nat) (w w6 : World) (g2 g3 g6 gc ga : Nat) (u1 u4 u5 u11 u12 u13 u14 u15 u16 u17 u18 u19 u20 u21 u22 u23 u24 u25 u26 u27 u28 u29 u30 u31 u32 u33 u34 u35 u36 u37 u38 u39 u40 u41 u42 u43 u44 u45 u46 u47 u48 u49 u50 u51 u52 u53 u54 u55 u56 u57 u58 u59 u60 u61 u62 u63 u64 u65 u66 u67 u68 u69 u70 u71 u72 u73 u74 u75 u76 u77 u78 u79 u80 : Value)
    (he : e < 256) (hop : op < 256) (hcl : cl < 256) (hnu : nu < 18446744073709551616) (hty : P.tyAn an) (ho : an.owner.length ≤ 20000) (hro : ∀ y ∈ an.rows, y.owner.length ≤ 20000) (hvo : ∀ y ∈ an.events, y.owner.length ≤ 20000) (hll : an.rows.length ≤ 1000000 ∧ an.events.length ≤ 1000000 ∧ an.pools.length ≤ 1000000) (hsm : (decide (e ≠ 0) || P.mayA op an) = true → an.rows.length ≤ 200 ∧ an.events.length ≤ 200 ∧ an.pools.length ≤ 200)
    (hok : ok = (decide (r0 = []) && ((decide (e ≠ 0) || P.knownB op) && ((decide (e ≠ 0) || P.mayA op an) && decide (P.tellB op cl nu an (e : Int) = s)))))
    (hC : rC = if ok then P.headC (op, cl, nu) else P.noC) (hAn : rA = if ok then an else P.noAn) (hN : rN = if ok then e else 0)
    (y2 : Bx w6 g2 46 #[.int .u8 0, .int .u8 0, .int .u64 0, .int .u8 0, .int .u64 0, .int .u64 0, .int .i64 0, .int .u8 0, .int .u64 0, .int .u64 0, .string ⟨#[]⟩, .string ⟨#[]⟩, .int .u64 0, .int .u64 0, .int .i64 0]) (y3 : Bx w6 g3 62 #[.int .u8 0, .int .u64 0, .int .u64 0, .int .u8 0, .int .u64 0, .int .u64 0, .string ⟨#[]⟩, .int .u64 0, .int .u8 0, .int .u64 0, .int .u64 0, .int .i64 0, .bool false, .bool false, .bool false, .int .u64 0, .slice none 0 0, .slice none 0 0, .slice none 0 0]) (y6 : Bx w6 g6 62 #[.int .u8 0, .int .u64 0, .int .u64 0, .int .u8 0, .int .u64 0, .int .u64 0, .string ⟨#[]⟩, .int .u64 0, .int .u8 0, .int .u64 0, .int .u64 0, .int .i64 0, .bool false, .bool false, .bool false, .int .u64 0, .slice none 0 0, .slice none 0 0, .slice none 0 0]) (hc6 : Bx w6 gc 46 #[.int .u8 (op : Nat), .int .u8 (cl : Nat), V64 nu, .int .u8 0, .int .u64 0, .int .u64 0, .int .i64 0, .int .u8 0, .int .u64 0, .int .u64 0, .string ⟨#[]⟩, .string ⟨#[]⟩, .int .u64 0, .int .u64 0, .int .i64 0]) (ha6 : Bx w6 ga 62 #[.int .u8 (an.a.fam : Nat), V64 an.a.hi, V64 an.a.lo, .int .u8 0, .int .u64 0, .int .u64 0, S an.owner, V64 an.til, .int .u8 (an.pool.a.fam : Nat), V64 an.pool.a.hi, V64 an.pool.a.lo, .int .i64 an.pool.bits, .bool an.has, .bool an.held, .bool an.live, V64 an.clock, .slice r an.rows.length rc, .slice v an.events.length vc, .slice p an.pools.length pc]) (hg : w.heap.size ≤ g2 ∧ g2 < g3 ∧ g3 < g6 ∧ g6 < gc ∧ gc < ga)
    (hown : OwnD w6 w.heap.size an r rc v vc p pc) (hA6 : Below w.heap.size w w6) :
    Code.wp Tryd.prog restH (bodyPost Tryd.prog Tryd.f26 fun e' w' => ∃ r rc v vc p pc, e' = .returned (.tuple #[caV rC, raV rA r rc v vc p pc, .int .i64 ((rN : Nat) : Int), .bool ok]) ∧ OwnD w' w.heap.size rA r rc v vc p pc ∧ Below w.heap.size w w') ⟨#[S s, u1, .pointer (some ⟨g2, 0, none⟩), .pointer (some ⟨g3, 0, none⟩), u4, u5, .pointer (some ⟨g6, 0, none⟩), .int .i64 (e : Nat), .pointer (some ⟨gc, 0, none⟩), .pointer (some ⟨ga, 0, none⟩), S r0, u11, u12, u13, u14, u15, u16, u17, u18, u19, u20, u21, u22, u23, u24, u25, u26, u27, u28, u29, u30, u31, u32, u33, u34, u35, u36, u37, u38, u39, u40, u41, u42, u43, u44, u45, u46, u47, u48, u49, u50, u51, u52, u53, u54, u55, u56, u57, u58, u59, u60, u61, u62, u63, u64, u65, u66, u67, u68, u69, u70, u71, u72, u73, u74, u75, u76, u77, u78, u79, u80], []⟩ w6 := by
  dsimp only
  conv => arg 2; whnf
  have HM := Lib.hid (fun wx (hat : AnsD wx an r v p) => refMay_any op an r rc v vc p pc (e : Int) hty (by omega) hll (fun y hy => Nat.le_trans (hro y hy) (by decide)) (fun y hy => Nat.le_trans (hvo y hy) (by decide)) wx hat)
  have HTl := Lib.hid (fun hm wx (hat : AnsD wx an r v p) => refTell_any (P.headC (op, cl, nu)) an r rc v vc p pc (e : Int) hop hcl hnu hty ho (hsm hm) hro hvo wx hat)
  have e1 : (decide (0 ≤ ((e : Nat) : Int) ∧ ((e : Nat) : Int) ≤ 255)) = true := decide_eq_true (by omega)
  have e2 : (decide (((e : Nat) : Int) ≠ 0)) = (decide (e ≠ 0)) := by rw [decide_eq_decide]; omega
  rw [e1, e2, Bool.true_and] at HM
  clear e1 e2 hll ho hro hvo hty hsm
  have c0 : w6.cell? ⟨gc, 0, none⟩ = some (.int .u8 (op : Nat)) := hc6.cell 0
  have Hok := Lib.hid hok
  have HC := Lib.hid hC
  have HAn := Lib.hid hAn
  have HN := Lib.hid hN
  clear hok hC hAn hN
  go_upto_region 11 with fail
  go_cut [75] (fun s75 wx => s75 = .bool (!ok) ∧ Below w6.heap.size w6 wx)
  case first =>
    cases r0 with
    | cons cx tx' =>
      have hlr : 0 < (cx :: tx').length := by simp
      go_wp2_with fail
      go_meet
      exact ⟨by rw [Hok.out]; simp, Below.refl _ _⟩
    | nil =>
      by_cases h1 : e = 0 ∧ op < 1
      · obtain ⟨hz, h1⟩ := h1
        subst hz
        have d1 : decide (((op : Nat) : Int) < 1) = true := decide_eq_true (by omega)
        go_wp2_with fail
        go_meet
        exact ⟨by rw [Hok.out]; simp [P.knownB, show ¬ (1 ≤ op ∧ op ≤ 15) by omega], Below.refl _ _⟩
      by_cases h2 : e = 0 ∧ 15 < op
      · obtain ⟨hz, h2⟩ := h2
        subst hz
        have d1 : decide (((op : Nat) : Int) < 1) = false := decide_eq_false (by omega)
        have d2 : decide ((15 : Int) < ((op : Nat) : Int)) = true := decide_eq_true (by omega)
        go_wp2_with fail
        go_meet
        exact ⟨by rw [Hok.out]; simp [P.knownB, show ¬ (1 ≤ op ∧ op ≤ 15) by omega], Below.refl _ _⟩
      have Hk := Lib.hid (show (decide (e ≠ 0) || P.knownB op) = true by unfold P.knownB; by_cases hz : e = 0 <;> simp [hz] <;> omega)
      refine wp_region_lit ?_
      refine wpList_takeV (v := S []) (by rfl) ?_ ?_
      · go_simp
      simp only [Act.put, nrm]
      refine wpList_takeV (v := .int .i64 0) (by rfl) ?_ ?_
      · go_simp
      simp only [Act.put, nrm]
      refine wpList_takeV (v := .bool false) (by rfl) ?_ ?_
      · go_simp
      simp only [Act.put, nrm]
      refine wpList_takeV (v := .bool false) (by rfl) ?_ ?_
      · go_simp
      simp only [Act.put, nrm]
      refine wpList_takeV (v := .int .i64 (e : Nat)) (by rfl) ?_ ?_
      · go_simp
      simp only [Act.put, nrm]
      have hcs : e = 0 ∨ ¬ e = 0 := Decidable.em _
      rcases hcs with hz | hz
      case' inl =>
        have d0 : (((e : Nat) : Int) == 0) = true := beq_iff_eq.2 (by omega)
        have d1 : decide (((op : Nat) : Int) < 1) = false := decide_eq_false (by omega)
        have d2 : decide ((15 : Int) < ((op : Nat) : Int)) = false := decide_eq_false (by omega)
        clear hz h1 h2
        refine wpList_takeV (v := .bool true) (by rfl) ?_ ?_
        · go_simp
        simp only [Act.put, nrm]
        refine wpList_takeV (v := .bool true) (by rfl) ?_ ?_
        · go_simp
        simp only [Act.put, nrm]
        refine wpList_takeV (v := .pointer (some ⟨gc, 0, none⟩)) (by rfl) ?_ ?_
        · go_simp
        simp only [Act.put, nrm]
        refine wpList_takeV (v := .int .u8 (op : Nat)) (by rfl) ?_ ?_
        · go_simp
        simp only [Act.put, nrm]
        refine wpList_takeV (v := .bool false) (by rfl) ?_ ?_
        · go_simp
        simp only [Act.put, nrm]
        refine wpList_takeV (v := .bool false) (by rfl) ?_ ?_
        · go_simp
        simp only [Act.put, nrm]
        refine wpList_takeV (v := .pointer (some ⟨gc, 0, none⟩)) (by rfl) ?_ ?_
        · go_simp
        simp only [Act.put, nrm]
        refine wpList_takeV (v := .int .u8 (op : Nat)) (by rfl) ?_ ?_
        · go_simp
        simp only [Act.put, nrm]
        refine wpList_takeV (v := .bool false) (by rfl) ?_ ?_
        · go_simp
        simp only [Act.put, nrm]
        refine wpList_takeV (v := .bool false) (by rfl) ?_ ?_
        · go_simp
        simp only [Act.put, nrm]
        refine wpList_takeV (v := .bool false) (by rfl) ?_ ?_
        · go_simp
        simp only [Act.put, nrm]
      case' inr =>
        have d0 : (((e : Nat) : Int) == 0) = false := beq_eq_false_iff_ne.2 (by omega)
        clear hz h1 h2
        refine wpList_takeV (v := .bool false) (by rfl) ?_ ?_
        · go_simp
        simp only [Act.put, nrm]
        refine wpList_takeV (v := .bool false) (by rfl) ?_ ?_
        · go_simp
        simp only [Act.put, nrm]
        iterate 8
          with_reducible refine wpList_skip ?hh ?_
          case hh => rfl
          simp only [Act.put, nrm]
        refine wpList_takeV (v := .bool false) (by rfl) ?_ ?_
        · go_simp
        simp only [Act.put, nrm]
      all_goals
        refine wpList_takeV (v := .bool false) (by rfl) ?_ ?_
        · go_simp
        simp only [Act.put, nrm]
        refine wpList_takeV (v := .bool false) (by rfl) ?_ ?_
        · go_simp
        simp only [Act.put, nrm]
        refine wpList_takeV (v := .pointer (some ⟨gc, 0, none⟩)) (by rfl) ?_ ?_
        · go_simp
        simp only [Act.put, nrm]
        refine wpList_takeV (v := .int .u8 (op : Nat)) (by rfl) ?_ ?_
        · go_simp
        simp only [Act.put, nrm]
        refine wpList_ldBG (by rfl) _ _ (by rfl) ha6 (by rfl) structRAn 19 infoRAn (by rfl) ?_
        simp only [Act.put, nrm]
        refine wpList_takeV (v := .int .i64 (e : Nat)) (by rfl) ?_ ?_
        · go_simp
        simp only [Act.put, nrm]
        refine wpList_step (fun K hK => ?_)
        rw [if_pos (by rfl)]
        go_simp
        go_at_call 19
        (with_reducible refine (HM.out w6 hown.at).mono ?_)
        rintro e w7 ⟨rfl, hbw7⟩
        have hc7 := hc6.up hbw7; have ha7 := ha6.up hbw7; have own7 := hown.up hbw7
        refine hK _ _ ?_
        clear hK K
        cases hm : (decide (e ≠ 0) || P.mayA op an)
        · have HOK := Lib.hid (show ok = false by rw [Hok.out, hm]; simp)
          refine wpList_takeV (v := .bool true) (by rfl) ?_ ?_
          · go_simp
          simp only [Act.put, nrm]
          refine wpList_takeV (v := .bool true) (by rfl) ?_ ?_
          · go_simp
          simp only [Act.put, nrm]
          refine wpList_takeV (v := .bool true) (by rfl) ?_ ?_
          · go_simp
          simp only [Act.put, nrm]
          iterate 6
            with_reducible refine wpList_skip ?hh ?_
            case hh => rfl
            simp only [Act.put, nrm]
          refine wpList_takeV (v := .bool true) (by rfl) ?_ ?_
          · go_simp
          simp only [Act.put, nrm]
          go_wp2_with fail
          go_meet
          exact ⟨by rw [HOK.out]; rfl, hbw7⟩
        · have HT2 := Lib.hid (fun wx hat => show Calls Tryd.prog 22 #[.agg #[.int .u8 (op : Nat), .int .u8 (cl : Nat), V64 nu, .int .u8 0, .int .u64 0, .int .u64 0, .int .i64 0, .int .u8 0, .int .u64 0, .int .u64 0, .string ⟨#[]⟩, .string ⟨#[]⟩, .int .u64 0, .int .u64 0, .int .i64 0], raV an r rc v vc p pc, .int .i64 (e : Nat)] wx fun e' w' => e' = .returned (S (P.tellB op cl nu an (e : Int))) ∧ Below wx.heap.size wx w' from HTl.out hm wx hat)
          refine wpList_takeV (v := .bool false) (by rfl) ?_ ?_
          · go_simp
          simp only [Act.put, nrm]
          refine wpList_takeV (v := .bool false) (by rfl) ?_ ?_
          · go_simp
          simp only [Act.put, nrm]
          refine wpList_takeV (v := .bool false) (by rfl) ?_ ?_
          · go_simp
          simp only [Act.put, nrm]
          refine wpList_ldBG (by rfl) _ _ (by rfl) hc7 (by rfl) structRC 15 infoRC (by rfl) ?_
          simp only [Act.put, nrm]
          refine wpList_ldBG (by rfl) _ _ (by rfl) ha7 (by rfl) structRAn 19 infoRAn (by rfl) ?_
          simp only [Act.put, nrm]
          refine wpList_takeV (v := .int .i64 (e : Nat)) (by rfl) ?_ ?_
          · go_simp
          simp only [Act.put, nrm]
          refine wpList_step (fun K hK => ?_)
          rw [if_pos (by rfl)]
          go_simp
          go_at_call 22
          (with_reducible refine (HT2.out w7 own7.at).mono ?_)
          rintro e w8 ⟨rfl, hbw8⟩
          skip
          refine hK _ _ ?_
          clear hK K
          have HOK := Lib.hid (show ok = decide (P.tellB op cl nu an (e : Int) = s) by rw [Hok.out, Hk.out, hm]; simp)
          clear hm
          generalize P.tellB op cl nu an (e : Int) = T at *
          by_cases hT : T = s
          · subst hT
            refine wpList_takeV (v := S T) (by rfl) ?_ ?_
            · go_simp
            simp only [Act.put, nrm]
            refine wpList_takeV (v := .bool false) (by rfl) ?_ ?_
            · go_simp
            simp only [Act.put, nrm]
            refine wpList_takeV (v := .bool false) (by rfl) ?_ ?_
            · go_simp
            simp only [Act.put, nrm]
            go_wp2_with fail
            go_meet
            exact ⟨by rw [HOK.out]; simp, Chain.up hbw7 hbw8⟩
          · have hne : (T == s) = false := beq_eq_false_iff_ne.2 hT
            have hne2 : decide (T = s) = false := decide_eq_false hT
            refine wpList_takeV (v := S s) (by rfl) ?_ ?_
            · go_simp
            simp only [Act.put, nrm]
            refine wpList_takeV (v := .bool true) (by rfl) ?_ ?_
            · go_simp
            simp only [Act.put, nrm]
            refine wpList_takeV (v := .bool true) (by rfl) ?_ ?_
            · go_simp
            simp only [Act.put, nrm]
            go_wp2_with fail
            go_meet
            exact ⟨by rw [HOK.out, hne2]; rfl, Chain.up hbw7 hbw8⟩
  case rest =>
    obtain ⟨rfl, hb9⟩ := hcut
    have z2 := y2.up hb9
    have z3 := y3.up hb9
    have z6 := y6.up hb9
    have zc := hc6.up hb9
    have za := ha6.up hb9
    have hA9 := Chain.up hA6 hb9
    have own9 := hown.up hb9
    clear y2 y3 y6 hc6 ha6 c0 hA6 hb9 HM HTl
    cases ok with
    | false =>
      have Hno := Lib.hid (show rC = P.noC ∧ rA = P.noAn ∧ rN = 0 from ⟨HC.out, HAn.out, HN.out⟩)
      go_upto_region 12 with fail
      refine wp_region_held_drew (S := fun wx => Bx wx g6 62 #[.int .u8 0, .int .u64 0, .int .u64 0, .int .u8 0, .int .u64 0, .int .u64 0, .string ⟨#[]⟩, .int .u64 0, .int .u8 0, .int .u64 0, .int .u64 0, .int .i64 0, .bool false, .bool false, .bool false, .int .u64 0, .slice none 0 0, .slice none 0 0, .slice none 0 0] ∧ Below w.heap.size w wx) (by kernel_rfl) ⟨z6.drew, hA9.drew⟩ (fun hHeld => ?_)
      refine wpAnyH_take (i := 0) (v := ?_) rfl (by kernel_rfl) (by kernel_rfl) (by kernel_rfl) (fun _ _ _ h => h) (Or.inl ⟨by rfl, ?_⟩) hHeld ?_
      rotate_left
      · intro wq hSw; go_simp; (try with_reducible rfl)
      simp only [Act.put, nrm]
      refine wpAnyH_take (i := 1) (v := .agg #[.int .u8 0, .int .u64 0, .int .u64 0, .int .u8 0, .int .u64 0, .int .u64 0, .string ⟨#[]⟩, .int .u64 0, .int .u8 0, .int .u64 0, .int .u64 0, .int .i64 0, .bool false, .bool false, .bool false, .int .u64 0, .slice none 0 0, .slice none 0 0, .slice none 0 0]) rfl (by kernel_rfl) (by kernel_rfl) (by kernel_rfl) (fun _ _ _ h => h) (yieldsB (by rfl) _ _ (by rfl) (by rfl) (fun wx h => h.1) structRAn 19 infoRAn (by rfl)) hHeld ?_
      simp only [Act.put, nrm]
      refine wpAnyH_one (i := 2) (by kernel_rfl) rfl (fun K hK => ?_)
      simp only [nrm]
      rw [if_pos (by rfl)]
      refine wp_stB _ _ _ (by rfl) z2.drew _ _ (by rfl) (by rfl) 15 15 (by rfl) (by rfl) (by decide) infoRC (by rfl) (by rfl) ?_
      intro w71 hz' hb71
      have y2 : Bx w71 g2 46 #[.int .u8 0, .int .u8 0, .int .u64 0, .int .u8 0, .int .u64 0, .int .u64 0, .int .i64 0, .int .u8 0, .int .u64 0, .int .u64 0, .string ⟨#[]⟩, .string ⟨#[]⟩, .int .u64 0, .int .u64 0, .int .i64 0] := hz'
      have y3 := (z3.drew).but hb71 (by omega)
      skip
      have hS1 := And.intro (hHeld.1.but hb71 (by omega)) (hHeld.2.trans (hb71.below (by omega) hHeld.2.size))
      refine hK.out _ _ hS1 ?_
      simp only [Act.put, nrm]
      clear hK K
      refine wpAnyH_one (i := 3) (by kernel_rfl) rfl (fun K hK => ?_)
      simp only [nrm]
      rw [if_pos (by rfl)]
      refine wp_stB _ _ _ (by rfl) y3 _ _ (by rfl) (by rfl) 19 19 (by rfl) (by rfl) (by decide) infoRAn (by rfl) (by rfl) ?_
      intro w72 hz' hb72
      have x3 : Bx w72 g3 62 #[.int .u8 0, .int .u64 0, .int .u64 0, .int .u8 0, .int .u64 0, .int .u64 0, .string ⟨#[]⟩, .int .u64 0, .int .u8 0, .int .u64 0, .int .u64 0, .int .i64 0, .bool false, .bool false, .bool false, .int .u64 0, .slice none 0 0, .slice none 0 0, .slice none 0 0] := hz'
      have x2 := y2.but hb72 (by omega)
      skip
      have hS2 := And.intro (hS1.1.but hb72 (by omega)) (hS1.2.trans (hb72.below (by omega) hS1.2.size))
      refine hK.out _ _ hS2 ?_
      simp only [Act.put, nrm]
      clear hK K
      refine wpAnyH_take (i := 4) (v := ?_) rfl (by kernel_rfl) (by kernel_rfl) (by kernel_rfl) (fun _ _ _ h => h) (Or.inl ⟨by rfl, ?_⟩) hS2 ?_
      rotate_left
      · intro wq hSw; go_simp; (try with_reducible rfl)
      simp only [Act.put, nrm]
      refine wpAnyH_take (i := 5) (v := ?_) rfl (by kernel_rfl) (by kernel_rfl) (by kernel_rfl) (fun _ _ _ h => h) (Or.inl ⟨by rfl, ?_⟩) hS2 ?_
      rotate_left
      · intro wq hSw; go_simp; (try with_reducible rfl)
      simp only [Act.put, nrm]
      refine wpAnyH_done (by kernel_rfl) ?_ _
      go_wp2_with fail
      exact bodyPost_ret (results_box4 rfl (by rfl) (by rfl) (loadB x2 structRC infoRC rfl) (loadB x3 structRAn infoRAn rfl)) rfl ⟨none, 0, none, 0, none, 0, by rw [Hno.out.1, Hno.out.2.1, Hno.out.2.2]; rfl, by rw [Hno.out.2.1]; exact OwnD.none _ _ _ rfl rfl rfl, hS2.2⟩
    | true =>
      have Hy := Lib.hid (show rC = P.headC (op, cl, nu) ∧ rA = an ∧ rN = e from ⟨HC.out, HAn.out, HN.out⟩)
      go_upto_region 13 with fail
      refine wp_region_held_drew (S := fun wx => (Bx wx gc 46 #[.int .u8 (op : Nat), .int .u8 (cl : Nat), V64 nu, .int .u8 0, .int .u64 0, .int .u64 0, .int .i64 0, .int .u8 0, .int .u64 0, .int .u64 0, .string ⟨#[]⟩, .string ⟨#[]⟩, .int .u64 0, .int .u64 0, .int .i64 0] ∧ Bx wx ga 62 #[.int .u8 (an.a.fam : Nat), V64 an.a.hi, V64 an.a.lo, .int .u8 0, .int .u64 0, .int .u64 0, S an.owner, V64 an.til, .int .u8 (an.pool.a.fam : Nat), V64 an.pool.a.hi, V64 an.pool.a.lo, .int .i64 an.pool.bits, .bool an.has, .bool an.held, .bool an.live, V64 an.clock, .slice r an.rows.length rc, .slice v an.events.length vc, .slice p an.pools.length pc]) ∧ Below w.heap.size w wx) (by kernel_rfl) ⟨⟨zc.drew, za.drew⟩, hA9.drew⟩ (fun hHeld => ?_)
      refine wpAnyH_take (i := 0) (v := .agg #[.int .u8 (op : Nat), .int .u8 (cl : Nat), V64 nu, .int .u8 0, .int .u64 0, .int .u64 0, .int .i64 0, .int .u8 0, .int .u64 0, .int .u64 0, .string ⟨#[]⟩, .string ⟨#[]⟩, .int .u64 0, .int .u64 0, .int .i64 0]) rfl (by kernel_rfl) (by kernel_rfl) (by kernel_rfl) (fun _ _ _ h => h) (yieldsB (by rfl) _ _ (by rfl) (by rfl) (fun wx h => h.1.1) structRC 15 infoRC (by rfl)) hHeld ?_
      simp only [Act.put, nrm]
      refine wpAnyH_take (i := 1) (v := .agg #[.int .u8 (an.a.fam : Nat), V64 an.a.hi, V64 an.a.lo, .int .u8 0, .int .u64 0, .int .u64 0, S an.owner, V64 an.til, .int .u8 (an.pool.a.fam : Nat), V64 an.pool.a.hi, V64 an.pool.a.lo, .int .i64 an.pool.bits, .bool an.has, .bool an.held, .bool an.live, V64 an.clock, .slice r an.rows.length rc, .slice v an.events.length vc, .slice p an.pools.length pc]) rfl (by kernel_rfl) (by kernel_rfl) (by kernel_rfl) (fun _ _ _ h => h) (yieldsB (by rfl) _ _ (by rfl) (by rfl) (fun wx h => h.1.2) structRAn 19 infoRAn (by rfl)) hHeld ?_
      simp only [Act.put, nrm]
      refine wpAnyH_take (i := 2) (v := ?_) rfl (by kernel_rfl) (by kernel_rfl) (by kernel_rfl) (fun _ _ _ h => h) (Or.inl ⟨by rfl, ?_⟩) hHeld ?_
      rotate_left
      · intro wq hSw; go_simp; (try with_reducible rfl)
      simp only [Act.put, nrm]
      refine wpAnyH_one (i := 3) (by kernel_rfl) rfl (fun K hK => ?_)
      simp only [nrm]
      rw [if_pos (by rfl)]
      refine wp_stB _ _ _ (by rfl) z2.drew _ _ (by rfl) (by rfl) 15 15 (by rfl) (by rfl) (by decide) infoRC (by rfl) (by rfl) ?_
      intro w71 hz' hb71
      have y2 : Bx w71 g2 46 #[.int .u8 (op : Nat), .int .u8 (cl : Nat), V64 nu, .int .u8 0, .int .u64 0, .int .u64 0, .int .i64 0, .int .u8 0, .int .u64 0, .int .u64 0, .string ⟨#[]⟩, .string ⟨#[]⟩, .int .u64 0, .int .u64 0, .int .i64 0] := hz'
      have y3 := (z3.drew).but hb71 (by omega)
      have own71 := (own9.up (Below.refl _ _).drew).but z2.drew ⟨by decide, by decide, by decide⟩ hb71
      have hS1 := And.intro (And.intro (hHeld.1.1.but hb71 (by omega)) (hHeld.1.2.but hb71 (by omega))) (hHeld.2.trans (hb71.below (by omega) hHeld.2.size))
      refine hK.out _ _ hS1 ?_
      simp only [Act.put, nrm]
      clear hK K
      refine wpAnyH_one (i := 4) (by kernel_rfl) rfl (fun K hK => ?_)
      simp only [nrm]
      rw [if_pos (by rfl)]
      refine wp_stB _ _ _ (by rfl) y3 _ _ (by rfl) (by rfl) 19 19 (by rfl) (by rfl) (by decide) infoRAn (by rfl) (by rfl) ?_
      intro w72 hz' hb72
      have x3 : Bx w72 g3 62 #[.int .u8 (an.a.fam : Nat), V64 an.a.hi, V64 an.a.lo, .int .u8 0, .int .u64 0, .int .u64 0, S an.owner, V64 an.til, .int .u8 (an.pool.a.fam : Nat), V64 an.pool.a.hi, V64 an.pool.a.lo, .int .i64 an.pool.bits, .bool an.has, .bool an.held, .bool an.live, V64 an.clock, .slice r an.rows.length rc, .slice v an.events.length vc, .slice p an.pools.length pc] := hz'
      have x2 := y2.but hb72 (by omega)
      have own72 := own71.but y3 ⟨by decide, by decide, by decide⟩ hb72
      have hS2 := And.intro (And.intro (hS1.1.1.but hb72 (by omega)) (hS1.1.2.but hb72 (by omega))) (hS1.2.trans (hb72.below (by omega) hS1.2.size))
      refine hK.out _ _ hS2 ?_
      simp only [Act.put, nrm]
      clear hK K
      refine wpAnyH_take (i := 5) (v := ?_) rfl (by kernel_rfl) (by kernel_rfl) (by kernel_rfl) (fun _ _ _ h => h) (Or.inl ⟨by rfl, ?_⟩) hS2 ?_
      rotate_left
      · intro wq hSw; go_simp; (try with_reducible rfl)
      simp only [Act.put, nrm]
      refine wpAnyH_take (i := 6) (v := ?_) rfl (by kernel_rfl) (by kernel_rfl) (by kernel_rfl) (fun _ _ _ h => h) (Or.inl ⟨by rfl, ?_⟩) hS2 ?_
      rotate_left
      · intro wq hSw; go_simp; (try with_reducible rfl)
      simp only [Act.put, nrm]
      refine wpAnyH_done (by kernel_rfl) ?_ _
      go_wp2_with fail
      exact bodyPost_ret (results_box4 rfl (by rfl) (by rfl) (loadB x2 structRC infoRC rfl) (loadB x3 structRAn infoRAn rfl)) rfl ⟨r, rc, v, vc, p, pc, by rw [Hy.out.1, Hy.out.2.1, Hy.out.2.2]; rfl, by rw [Hy.out.2.1]; exact own72, hS2.2⟩
end Go.Proofs.YtcobfoiajdbahaaDoor
