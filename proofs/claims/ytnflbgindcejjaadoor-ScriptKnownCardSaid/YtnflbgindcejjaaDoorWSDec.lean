/- The walk of the script's Decode. -/
import Derived.Test.YtnflbgindcejjaaDoorWSAct
namespace Go.Proofs.YtnflbgindcejjaaDoor
open Go.RowKit
set_option linter.unusedVariables false
set_option linter.unusedSimpArgs false

theorem P.acts_bad {f : Nat} {s t : List UInt8} {a : P.Ac} (h : P.qAct (s, false) = (a, (t, true))) : P.rdActs (f + 1) s = [] := by
  unfold P.rdActs
  rw [P.rdAct_said, h]
  rfl
theorem P.acts_more {f : Nat} {s t : List UInt8} {a : P.Ac} (h : P.qAct (s, false) = (a, (t, false))) : P.rdActs (f + 1) s = a :: P.rdActs f t := by
  show (match P.rdAct s with | none => [] | some (a, t) => a :: P.rdActs f t) = _
  rw [P.rdAct_said, h]
  rfl
/-- A slice of bytes that reads as l. -/
def Says (w : World) (v : Value) (l : List UInt8) : Prop := ∀ wx, Below w.heap.size w wx → (convert 30 9 v).run Tryd.prog wx = .ok (S l) wx
theorem Says.up {w w' : World} {v : Value} {l : List UInt8} (h : Says w v l) (hb : Below w.heap.size w w') : Says w' v l := fun wx hx => h wx (hb.trans (hx.mono hb.size))
theorem OwnG.says {w : World} {B : Nat} {v : Value} {l : List UInt8} (h : OwnG w B v l) : Says w v l := fun wx hx => (h.up hx).string
/-- 'string(b)'. -/
theorem wpList_strS {ops : Array Oper} {Q : Exit → Act → World → Prop} {a : Act} {w : World} {rest : List Oper} {d : Option Tmp} {ty : TypeId} {pos : String} {aft : Array Edge} {x : Operand} {v : Value} {l : List UInt8} (hx : a.eval x = v) (hs : Says w v l)
    (h : wpList Tryd.prog ops Q rest (a.put d (S l)) w) : wpList Tryd.prog ops Q (⟨d, .convert 30 9 x, ty, pos, aft, none⟩ :: rest) a w := by
  refine wpList_plain rfl fun K hK => ?_
  have hrun := hs w (Below.refl _ _)
  unfold Oper.wp execOp
  simp only [hx, Sem.run_bind, hrun, Result.andThen_ok, Sem.run_pure]
  exact hK _ _ h
def lenV : Value → Nat
  | .slice _ n _ => n
  | _ => 0
/-- What Decode gives. -/
def DecDid (l : List UInt8) (w : World) (e : Ending) (w' : World) : Prop := ∃ (rs : List AcR) (v : Value), e = .returned v ∧ rs.map AcR.x = P.rdActs 4096 l ∧ OwnActs w' w.heap.size v rs ∧ (∀ r ∈ rs, AcOwn w' w.heap.size r) ∧ Below w.heap.size w w'
set_option maxRecDepth 100000 in
set_option maxHeartbeats 8000000 in
theorem decode_any (v : Value) (l : List UInt8) (w : World) (hl : l.length ≤ 1000000) (hs : Says w v l) :
    Calls Tryd.prog 11 #[v] w (DecDid l w) := by
  have HL := Lib.hid hl
  have hx0 : RdX (w.alloc (.cells #[S l, .bool false] 58)) w.heap.size (l, false) := Bx.fresh w 58 #[S l, .bool false]
  have hb0 : Below w.heap.size w (w.alloc (.cells #[S l, .bool false] 58)) := (Below.refl _ _).alloc (Nat.le_refl _) _
  go_enter Tryd.func11, Tryd.ntmps11
  go_wp2_with (refine wpList_strS (by rfl) hs ?_)
  go_loopw [3] (fun z wr => ∃ (rs : List AcR) (q : List UInt8), lenV z = rs.length ∧ rs.length ≤ 4096 ∧ OwnActs wr (w.heap.size + 1) z rs ∧ (∀ r ∈ rs, AcOwn wr (w.heap.size + 1) r) ∧ RdX wr w.heap.size (q, false) ∧ q.length ≤ l.length ∧
      P.rdActs 4096 l = rs.map AcR.x ++ P.rdActs (4096 - rs.length) q ∧ w.heap.size + 1 ≤ wr.heap.size ∧ Below w.heap.size w wr) (fun z _ => 4096 - lenV z)
  case atStart => exact ⟨[], l, rfl, by simp, ownR_nil _ _, fun r hr => by simp at hr, hx0, Nat.le_refl _, rfl, by simp, hb0⟩
  case round =>
    clear hx0 hb0
    obtain ⟨rs, q, hlen, hrs, hown, hacs, hx, hql, hread, hsz, hb⟩ := hrel
    have Hacs := Lib.hid hacs
    have Hread := Lib.hid hread
    clear hacs hread
    obtain ⟨x0, x1, xf0, xf1⟩ := (show Bx wr w.heap.size 58 #[S q, .bool false] from hx).two
    obtain ⟨za, zc, rfl, _, _⟩ := hown.is acCells_len
    by_cases hfull : rs.length < 4096
    · rcases q with _ | ⟨c, t⟩
      · have Hfin := Lib.hid (show rs.map AcR.x = P.rdActs 4096 l by rw [Hread.out, P.rdActs_nil, List.append_nil])
        go_wp2_with fail
        go_ret
        exact ⟨rs, _, rfl, Hfin.out, OwnR.low hown (Nat.le_succ _), fun r hr => (Hacs.out r hr).low (Nat.le_succ _), hb⟩
      · have hlt : ((rs.length : Nat) : Int) < 4096 := by omega
        go_wp2_with fail
        go_at_call 21
        (with_reducible refine (act_any w.heap.size (c :: t, false) _ ?hs1 hx).mono ?_)
        case hs1 => have := HL.out; simp only at *; omega
        rintro e w1 ⟨r0, ⟨s', b'⟩, Hq, rfl, hac, hx1, hd1, hl1⟩
        have hown1 := OwnR.but hown hx (by decide) hd1
        have Hacs1 := Lib.hid (fun r (hr : r ∈ rs) => (Hacs.out r hr).but hx (by decide) (by decide) (by decide) hd1)
        have hsz1 := Nat.le_trans hsz hd1.size
        have hb1 := hb.trans (hd1.below (Nat.le_refl _) hb.size)
        have hac1 := AcOwn.low hac hsz
        have Hr0 := Lib.hid (rfl : r0 = r0)
        clear hac
        cases b' with
        | true =>
          have Hfin := Lib.hid (show rs.map AcR.x = P.rdActs 4096 l by rw [Hread.out, show 4096 - rs.length = (4095 - rs.length) + 1 by omega, P.acts_bad Hq.out, List.append_nil])
          have hxa := fun O => (hx1.up ((Below.refl w1.heap.size w1).alloc (Nat.le_refl _) O)).cell 1
          simp only [acCells]
          go_wp2_with fail
          go_ret
          exact ⟨rs, _, rfl, Hfin.out, OwnR.low (OwnR.alloc hown1 _) (Nat.le_succ _), fun r hr => ((Hacs1.out r hr).alloc _).low (Nat.le_succ _), hb1.alloc hb1.size _⟩
        | false =>
          have Hnext := Lib.hid (show P.rdActs 4096 l = (rs ++ [r0]).map AcR.x ++ P.rdActs (4096 - (rs ++ [r0]).length) s' by rw [Hread.out, show 4096 - rs.length = (4095 - rs.length) + 1 by omega, P.acts_more Hq.out]; simp only [List.map_append, List.map_cons, List.map_nil, List.append_assoc, List.length_append, List.length_cons, List.length_nil, List.cons_append, List.nil_append, show 4096 - (rs.length + (0 + 1)) = 4095 - rs.length by omega])
          have hxa := fun O => (hx1.up ((Below.refl w1.heap.size w1).alloc (Nat.le_refl _) O)).cell 1
          have HszO := Lib.hid (fun O => (by simp : (w1.alloc O).heap.size = w1.heap.size + 1))
          simp only [acCells]
          go_wp2_with (at_builtin; (refine wpList_pushAct (by rfl) _ _ (by rfl) (w.heap.size + 1) _ rs r0 (by rfl) (OwnR.alloc (OwnR.alloc hown1 _) _) (by omega) (w1.heap.size + 1) _ (0, 0) ((congrArg (fun z => (World.alloc _ _).heap[z]?) (HszO.out _).symm).trans (heap_alloc_new _ _)) (by rfl) (by rfl) ?hB ?_); (case hB => have := ((Below.refl w1.heap.size w1).alloc (Nat.le_refl _) (.cells (acCells r0).toArray 32)).size; simp only [World.size_alloc] at *; omega); intro v' w10 hown10 hb10 hkt10)
          have hA := fun (O O' : Obj) => ((Below.refl w1.heap.size w1).alloc (Nat.le_refl _) O).alloc ((Below.refl w1.heap.size w1).alloc (Nat.le_refl _) O).size O'
          obtain ⟨ad, cc, hv', _, _⟩ := hown10.is acCells_len
          have hlv : lenV v' = (rs ++ [r0]).length := by rw [hv']; rfl
          have hl2 : (rs ++ [r0]).length = rs.length + 1 := by simp
          refine ⟨⟨rs ++ [r0], s', hlv, by omega, hown10, fun r hr => ?_, (hx1.up (hA _ _)).below hb10 (by omega), Nat.le_trans hl1 hql, Hnext.out, Nat.le_trans hsz1 (Nat.le_trans (hA _ _).size hb10.size), (hb1.trans ((hA _ _).mono hb1.size)).trans (hb10.mono (Nat.le_succ _))⟩, ?_⟩
          · rcases List.mem_append.1 hr with hr | hr
            · exact (((Hacs1.out r hr).alloc _).alloc _).keptT hkt10 (by decide) (by decide) (by decide)
            · obtain rfl := List.mem_singleton.1 hr
              exact ((hac1.alloc _).alloc _).keptT hkt10 (by decide) (by decide) (by decide)
          · rw [hlv, hl2]
            show 4096 - (rs.length + 1) < 4096 - rs.length
            omega
    · have hge : ¬ (((rs.length : Nat) : Int) < 4096) := by omega
      have Hfin := Lib.hid (show rs.map AcR.x = P.rdActs 4096 l by rw [Hread.out, show 4096 - rs.length = 0 by omega]; exact (List.append_nil _).symm)
      rcases q with _ | ⟨c, t⟩
      · go_wp2_with fail
        go_ret
        exact ⟨rs, _, rfl, Hfin.out, OwnR.low hown (Nat.le_succ _), fun r hr => (Hacs.out r hr).low (Nat.le_succ _), hb⟩
      · go_wp2_with fail
        go_ret
        exact ⟨rs, _, rfl, Hfin.out, OwnR.low hown (Nat.le_succ _), fun r hr => (Hacs.out r hr).low (Nat.le_succ _), hb⟩
end Go.Proofs.YtnflbgindcejjaaDoor
