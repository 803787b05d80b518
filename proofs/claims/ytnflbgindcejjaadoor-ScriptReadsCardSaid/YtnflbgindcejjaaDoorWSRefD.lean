/- The walk of the document's Decode (script). -/
import Derived.Test.YtnflbgindcejjaaDoorWSRefK
import Derived.Test.YtnflbgindcejjaaDoorWSDec
namespace Go.Proofs.YtnflbgindcejjaaDoor
open Go.RowKit
set_option linter.unusedVariables false
set_option linter.unusedSimpArgs false

theorem P.acts_none {f : Nat} {s : List UInt8} (h : P.rdAct s = none) : P.rdActs (f + 1) s = [] := by
  unfold P.rdActs
  rw [h]
theorem P.acts_some {f : Nat} {s t : List UInt8} {a : P.Ac} (h : P.rdAct s = some (a, t)) : P.rdActs (f + 1) s = a :: P.rdActs f t := by
  show (match P.rdAct s with | none => [] | some (a, t) => a :: P.rdActs f t) = _
  rw [h]
set_option maxRecDepth 100000 in
set_option maxHeartbeats 8000000 in
theorem refDecode_any (s : List UInt8) (w : World) (hl : s.length ≤ 1000000) :
    Calls Tryd.prog 18 #[S s] w (DecDid s w) := by
  have HL := Lib.hid hl
  go_enter Tryd.func18, Tryd.ntmps18
  go_wp2_with fail
  go_loopw [3, 4] (fun z y wr => ∃ (rs : List AcR) (q : Nat), y = .int .i64 q ∧ lenV z = rs.length ∧ rs.length ≤ 4096 ∧ OwnActs wr w.heap.size z rs ∧ (∀ r ∈ rs, AcOwn wr w.heap.size r) ∧ q ≤ s.length ∧
      P.rdActs 4096 s = rs.map AcR.x ++ P.rdActs (4096 - rs.length) (s.drop q) ∧ Below w.heap.size w wr) (fun z _ _ => 4096 - lenV z)
  case atStart => exact ⟨[], 0, rfl, rfl, by simp, ownR_nil _ _, fun r hr => by simp at hr, by omega, rfl, Below.refl _ _⟩
  case round =>
    obtain ⟨rs, q, rfl, hlen, hrs, hown, hacs, hql, hread, hb⟩ := hrel
    have Hacs := Lib.hid hacs
    have Hread := Lib.hid hread
    clear hacs hread
    obtain ⟨za, zc, rfl, _, _⟩ := hown.is acCells_len
    by_cases hq : q < s.length
    case neg =>
      have hge : decide (q < s.length) = false := decide_eq_false hq
      have Hfin := Lib.hid (show rs.map AcR.x = P.rdActs 4096 s by rw [Hread.out, List.drop_eq_nil_of_le (by omega), P.rdActs_nil, List.append_nil])
      go_wp2_with fail
      go_ret
      exact ⟨rs, _, rfl, Hfin.out, hown, Hacs.out, hb⟩
    have hqd : decide (q < s.length) = true := decide_eq_true hq
    by_cases hfull : rs.length < 4096
    case neg =>
      have hge : decide (rs.length < 4096) = false := decide_eq_false hfull
      have Hfin := Lib.hid (show rs.map AcR.x = P.rdActs 4096 s by rw [Hread.out, show 4096 - rs.length = 0 by omega]; exact (List.append_nil _).symm)
      go_wp2_with fail
      go_ret
      exact ⟨rs, _, rfl, Hfin.out, hown, Hacs.out, hb⟩
    have hfd : decide (rs.length < 4096) = true := decide_eq_true hfull
    go_wp2_with fail
    go_at_call 28
    (with_reducible refine (take_any s q hq ?hs1 _).mono ?_)
    case hs1 => exact HL.out
    rintro e w1 ⟨hcase, hb1⟩
    have hown1 := OwnR.up hown hb1
    have Hacs1 := Lib.hid (fun r (hr : r ∈ rs) => (Hacs.out r hr).up hb1)
    have hbb1 := Chain.up hb hb1
    have hsz1 := hbb1.size
    rcases hcase with ⟨hno, r0, rfl⟩ | ⟨r0, q2, hyes, hq2, hq2s, rfl, hac⟩
    · have Hfin := Lib.hid (show rs.map AcR.x = P.rdActs 4096 s by rw [Hread.out, show 4096 - rs.length = (4095 - rs.length) + 1 by omega, P.acts_none hno, List.append_nil])
      simp only [acCells]
      go_wp2_with fail
      go_ret
      exact ⟨rs, _, rfl, Hfin.out, OwnR.alloc hown1 _, fun r hr => (Hacs1.out r hr).alloc _, hbb1.alloc hsz1 _⟩
    · have hac1 := AcOwn.low hac hb.size
      have hq2n : decide ((q2 : Int) < 0) = false := decide_eq_false (by omega)
      have Hnext := Lib.hid (show P.rdActs 4096 s = (rs ++ [r0]).map AcR.x ++ P.rdActs (4096 - (rs ++ [r0]).length) (s.drop q2) by rw [Hread.out, show 4096 - rs.length = (4095 - rs.length) + 1 by omega, P.acts_some hyes]; simp only [List.map_append, List.map_cons, List.map_nil, List.append_assoc, List.length_append, List.length_cons, List.length_nil, List.cons_append, List.nil_append, show 4096 - (rs.length + (0 + 1)) = 4095 - rs.length by omega])
      clear hyes
      have HszO := Lib.hid (fun O => (by simp : (w1.alloc O).heap.size = w1.heap.size + 1))
      simp only [acCells]
      go_wp2_with (at_builtin; (refine wpList_pushAct (by rfl) _ _ (by rfl) w.heap.size _ rs r0 (by rfl) (OwnR.alloc (OwnR.alloc hown1 _) _) (by omega) (w1.heap.size + 1) _ (0, 0) ((congrArg (fun z => (World.alloc _ _).heap[z]?) (HszO.out _).symm).trans (heap_alloc_new _ _)) (by rfl) (by rfl) ?hB ?_); (case hB => have := ((Below.refl w1.heap.size w1).alloc (Nat.le_refl _) (.cells (acCells r0).toArray 32)).size; simp only [World.size_alloc] at *; omega); intro v' w10 hown10 hb10 hkt10)
      have hA := fun (O O' : Obj) => ((Below.refl w1.heap.size w1).alloc (Nat.le_refl _) O).alloc ((Below.refl w1.heap.size w1).alloc (Nat.le_refl _) O).size O'
      obtain ⟨ad, cc, hv', _, _⟩ := hown10.is acCells_len
      have hlv : lenV v' = (rs ++ [r0]).length := by rw [hv']; rfl
      have hl2 : (rs ++ [r0]).length = rs.length + 1 := by simp
      refine ⟨⟨rs ++ [r0], q2, rfl, hlv, by omega, hown10, fun r hr => ?_, hq2s, Hnext.out, (hbb1.trans ((hA _ _).mono hsz1)).trans hb10⟩, ?_⟩
      · rcases List.mem_append.1 hr with hr | hr
        · exact (((Hacs1.out r hr).alloc _).alloc _).keptT hkt10 (by decide) (by decide) (by decide)
        · obtain rfl := List.mem_singleton.1 hr
          exact ((hac1.alloc _).alloc _).keptT hkt10 (by decide) (by decide) (by decide)
      · rw [hlv, hl2]
        show 4096 - (rs.length + 1) < 4096 - rs.length
        omega
end Go.Proofs.YtnflbgindcejjaaDoor
