/- ProtoWrites: whether a call is a request, and its bytes, are the document's. The walk of the law. -/
import Derived.Test.YtcobfoiajdbahaaDoorRows
import Derived.WalkKit
import Derived.ProofKit
import Derived.OpenShut
import Derived.ShutString
import Derived.ChangeOld
import Derived.Below
import Derived.LaidMore
import Derived.Lib.LaidTab
import Derived.Stop.Joined
import Derived.Test.YtcobfoiajdbahaaDoorWQWrite
import Derived.MakeChecks
import Derived.Test.YtcobfoiajdbahaaDoorWStrs
import Derived.SliceStrings
import Derived.Test.YtcobfoiajdbahaaDoorWOwnR
import Derived.Deep.Slices
import Derived.Deep.Fields
import Derived.Test.YtcobfoiajdbahaaDoorWQWr
import Derived.Lib.SmallJoins
import Derived.Test.YtcobfoiajdbahaaDoorWQHear
import Derived.Test.YtcobfoiajdbahaaDoorWQTold
import Derived.Test.YtcobfoiajdbahaaDoorWQRight25
import Derived.Test.YtcobfoiajdbahaaDoorWQRefWrM

namespace Go.Proofs.YtcobfoiajdbahaaDoor
open Go.ChangeShapes Go.WideShapes Go.ChangeAt Go.RowKit

theorem own : ownKnob Tryd.prog.godebug = none := by kernel_rfl
theorem laidOut : laidOutB Tryd.prog = true := by kernel_rfl

section
variable {H : Type} {enc : TypeId × Value → H} {P : Program}

theorem trodAll_below (hl : laidOutB P = true) {W W' : World} (hb : Below W.heap.size W W') : ∀ (ts : List TypeId) (vs : List Value) (ds : List (DataW H)) (ps : List MemPlace),
    (∀ t ∈ ts, P.readableRec t = true ∧ t < P.types.size) → (∀ x ∈ ps, x.block < W.heap.size) →
    DataW.TrodAll enc P W 0 (fun _ => true) true ts vs ds ps → DataW.TrodAll enc P W' 0 (fun b => decide (b < W.heap.size)) true ts vs ds ps
  | [], vs, ds, ps, _, _, h => by
    obtain ⟨rfl, rfl, rfl⟩ := trodAll_nil h
    exact trodAll_mk0
  | t :: ts, vs, ds, ps, ht, hp, h => by
    obtain ⟨v, vs', d, ds', p, q, rfl, rfl, rfl, h0, h1⟩ := trodAll_cons h
    have ht0 := ht t (List.mem_cons_self ..)
    exact ⟨p, q, Below.trod hl ht0.1 ht0.2 h0 hb (fun x hx => hp x (List.mem_append_left _ hx)),
      trodAll_below hl hb ts vs' ds' q (fun t' ht' => ht t' (List.mem_cons_of_mem _ ht')) (fun x hx => hp x (List.mem_append_right _ hx)) h1, rfl⟩

theorem post_true (hl : laidOutB P = true) {f : Func} {s : ChangeSpec} {apart : Bool} {W W' : World} {args : Array Value} {ds gs : List (DataW H)} {before : List MemPlace} {tb : TypeId}
    (hts : (f.params.toList.all fun t => P.readableRec t && decide (t < P.types.size)) = true) (hv : s.vars = []) (hr : f.resultTypes = #[tb]) (htb : P.underlying tb = some .bool)
    (hfn : s.fn H ds = { results := [.lit (.bool true)], args := ds })
    (hW : DataW.Whole enc P f.params.toList s.vars apart W args.toList ds gs before) (bel : Below W.heap.size W W') : s.post enc P f apart true false false W args (.bool true) W' := by
  have hW' := hW
  obtain ⟨p, q, hA, hV, rfl, _, _⟩ := hW
  rw [hv] at hV
  obtain ⟨rfl, rfl⟩ := trodVars_none hV
  have hlt : ∀ x ∈ p, x.block < W.heap.size := fun x hx => hW'.lt x (by simpa using hx)
  have hts' : ∀ t ∈ f.params.toList, P.readableRec t = true ∧ t < P.types.size := fun t ht => by
    have h1 := List.all_eq_true.1 hts t ht
    simpa using h1
  refine ⟨ds, [], p ++ [], [], p, [], hW', ?_, ?_, ?_, bel.frame _, fun h => by cases h⟩
  · rw [List.append_nil, hfn, hr]
    exact trodAll_mk1 (shut_bool htb true)
  · rw [List.append_nil, hfn]
    exact trodAll_below hl bel _ _ _ _ hts' hlt hA
  · rw [List.append_nil, hfn, hv]
    exact rfl

/-- The row's step without listed variables. -/
theorem lift_plain {C : Checked} {os : Os} {F : FuncId} {fn : Func} {s : ChangeSpec} {tb : TypeId} (hown : ownKnob C.prog.godebug = none) (hl : laidOutB C.prog = true) (started : os.Started) (noInit : C.prog.inits.idxOf? F = none) (hf : C.prog.funcs[F]? = some fn)
    (witness : ∃ (w : World) (tape : Tape) (i : Input), w.os = os ∧ (w.forCall tape i).Shaped C.prog ∧ i.vars = [] ∧ Input.okWide C.prog (w.forCall tape i) .any w.heap.size F i ∧
      s.pre6 enc C.prog fn [] false (w.forCall tape i).memory i.args ∧ ({} : Assume).holds C.prog (lone (Frame.enter C.prog F i.args .normal) [] (w.forCall tape i)))
    (hts : (fn.params.toList.all fun t => C.prog.readableRec t && decide (t < C.prog.types.size)) = true) (hv : s.vars = []) (hr : fn.resultTypes = #[tb]) (htb : C.prog.underlying tb = some .bool)
    (hfn : ∀ ds : List (DataW H), ds.length = fn.params.toList.length → s.fn H ds = { results := [.lit (.bool true)], args := ds })
    (walk : ∀ (W : World) (base : Nat) (args : Array Value) (ds : List (DataW H)) (ps : List MemPlace), (∀ (j : Nat) t v, fn.params[j]? = some t → args[j]? = some v → Value.okWide C.prog W .any base t v) →
      DataW.TrodAll enc C.prog W 0 (fun _ => true) true fn.params.toList args.toList ds ps → ds.length = fn.params.toList.length ∧ Calls C.prog F args W fun e W' => e = .returned (.bool true) ∧ Below W.heap.size W W') :
    ReturnsInHanded {} C os F .any (s.pre6 enc C.prog fn [] false) (s.post enc C.prog fn false true false false) := by
  refine returnsInHanded_of_change hown started noInit hf witness ?_
  intro W base args ds gs before hval hW _ _
  have hW' := hW
  obtain ⟨p, q, hA, _, _, _, _⟩ := hW
  obtain ⟨hlen, hc⟩ := walk W base args ds p hval hA
  refine hc.mono fun e W' ⟨he, bel⟩ => ?_
  exact ⟨_, he, post_true hl hts hv hr htb (hfn ds hlen) hW' bel⟩

/-- The row's step with listed variables: 'L' is their list. -/
theorem lift_laid {C : Checked} {os : Os} {F : FuncId} {fn : Func} {s : ChangeSpec} {tb : TypeId} (L : List (String × DataW Unit)) (hown : ownKnob C.prog.godebug = none) (hl : laidOutB C.prog = true) (started : os.Started) (noInit : C.prog.inits.idxOf? F = none) (hf : C.prog.funcs[F]? = some fn)
    (witness : ∃ (w : World) (tape : Tape) (i : Input), w.os = os ∧ (w.forCall tape i).Shaped C.prog ∧ i.vars = [] ∧ Input.okWide C.prog (w.forCall tape i) .any w.heap.size F i ∧
      ((s.pre enc C.prog fn [] false (w.forCall tape i).memory i.args ∧ laidMetH C.prog L (w.forCall tape i).memory) ∧ sizedMet enc C.prog fn (OpenSpec.ofChange s) false (w.forCall tape i).memory i.args) ∧ ({} : Assume).holds C.prog (lone (Frame.enter C.prog F i.args .normal) [] (w.forCall tape i)))
    (hts : (fn.params.toList.all fun t => C.prog.readableRec t && decide (t < C.prog.types.size)) = true) (hv : s.vars = []) (hr : fn.resultTypes = #[tb]) (htb : C.prog.underlying tb = some .bool)
    (hfn : ∀ ds : List (DataW H), ds.length = fn.params.toList.length → s.fn H ds = { results := [.lit (.bool true)], args := ds })
    (walk : ∀ (W : World) (base : Nat) (args : Array Value) (ds : List (DataW H)) (ps : List MemPlace), (∀ (j : Nat) t v, fn.params[j]? = some t → args[j]? = some v → Value.okWide C.prog W .any base t v) →
      DataW.TrodAll enc C.prog W 0 (fun _ => true) true fn.params.toList args.toList ds ps → laidMetH C.prog L W → ds.length = fn.params.toList.length ∧ Calls C.prog F args W fun e W' => e = .returned (.bool true) ∧ Below W.heap.size W W') :
    ReturnsInHanded {} C os F .any (fun w args => (s.pre enc C.prog fn [] false w args ∧ laidMetH C.prog L w) ∧ sizedMet enc C.prog fn (OpenSpec.ofChange s) false w args) (s.post enc C.prog fn false true false false) := by
  refine returnsInHanded_of_change_and (X := fun w _ => laidMetH C.prog L w) (fun _ _ _ hh h => h.of_heap hh) hown started noInit hf witness ?_
  intro W base args ds gs before hval hW _ _ hL _
  have hW' := hW
  obtain ⟨p, q, hA, _, _, _, _⟩ := hW
  obtain ⟨hlen, hc⟩ := walk W base args ds p hval hA hL
  refine hc.mono fun e W' ⟨he, bel⟩ => ?_
  exact ⟨_, he, post_true hl hts hv hr htb (hfn ds hlen) hW' bel⟩
end
end Go.Proofs.YtcobfoiajdbahaaDoor

namespace Go.Proofs.YtcobfoiajdbahaaDoor
open Go.RowKit

abbrev tabL : List (String × DataW Unit) := [("copyhold/proto.uses", Rows.laid_copyhold_proto_uses)]
def tabZs : List Int := [0, 1, 1, 1, 1, 22, 21, 22, 6, 14, 2, 67, 98, 65, 65, 0]
theorem tab_data : (Rows.laid_copyhold_proto_uses : DataW Unit) = Lib.tabData .i64 tabZs := rfl
theorem tab_zs : ∀ i : Fin 16, ((P.uses i.val : Nat) : Int) = tabZs.getD i.val 0 := by decide
theorem gTab : Tryd.prog.globalNamed "copyhold/proto.uses" = some 0 := by kernel_rfl
theorem tTab : (Tryd.prog.globals[0]?).map (·.type) = some 90 := by kernel_rfl
theorem cells_int : Tryd.prog.cellsOf 3 = 1 := by kernel_rfl
theorem cells_tab : Tryd.prog.cellsOf 90 = 16 := by kernel_rfl

theorem tab_of_laid {W : World} (h : laidMetH Tryd.prog tabL W) : UsesOk W := by
  rw [MakeChecks.laidMetH_plain _ _ _ (by kernel_rfl)] at h
  have h' : laidMet Tryd.prog (("copyhold/proto.uses", Lib.tabData .i64 tabZs) :: []) W := h
  have hT := Lib.tabIs_of_head gTab tTab Tryd.underlying90 Tryd.underlying3 cells_int cells_tab h'
  have hc : ∀ i, i < 16 → W.cell? ⟨0, i, none⟩ = some (.int .i64 ((P.uses i : Nat) : Int)) := fun i hi => by
    rw [hT.cell gTab i hi, ← tab_zs ⟨i, hi⟩]
  exact ⟨World.block_lt_of_cell? W ⟨0, 0, none⟩ (hc 0 (by omega)), hc⟩

theorem tab_met (os : Os) (args : Array Value) : laidMetH Tryd.prog tabL ((World.doorLaid Tryd.prog 14 os).forCall (fun _ _ => 0) ⟨#[], args, []⟩).memory :=
  laidMetH_of_parts3 (fuel := 8) (laidMet_of_run' 8 (by kernel_rfl) (by kernel_rfl)) (by kernel_rfl) (by kernel_rfl)
end Go.Proofs.YtcobfoiajdbahaaDoor

namespace Go.Proofs.YtcobfoiajdbahaaDoor
open Go.RowKit Go.ChangeShapes Go.WideShapes

theorem addr_plain {w : World} {a : Addr} {v : Value} (h : w.cell? a = some v) : a = ⟨a.block, a.off, none⟩ := by
  obtain ⟨b, o, s⟩ := a
  cases s with
  | none => rfl
  | some x =>
    unfold World.cell? at h
    split at h
    · simp at h
    · cases h
theorem addr_add (b o i : Nat) : (⟨b, o, none⟩ : Addr).add i = ⟨b, o + i, none⟩ := by
  unfold Addr.add
  split
  · rename_i h; subst h; rfl
  · rfl

theorem open_strs {H : Type} {enc : TypeId × Value → H} {P : Program} {W : World} {base : Nat} {sp : Nat → Bool} {held : Bool} {t e : TypeId} {a : Option Addr} {n c : Nat} {d : DataW H} {p : List MemPlace}
    (ht : P.underlying t = some (.slice e)) (he : P.underlying e = some .string) (hc : P.cellsOf e = 1) (h : DataW.Trod enc P W base sp held t (.slice a n c) d p) :
    ∃ ps : List (List UInt8), ps.length = n ∧ ps.length ≤ 9223372036854775807 ∧ (∀ l ∈ ps, l.length ≤ 9223372036854775807) ∧ StrsAt W a ps := by
  obtain ⟨fuel, hf⟩ := h
  rcases open_strings ht he hc hf with ⟨hcs, _⟩ | ⟨a', len, cap, ss, hcs, _, hle, hm, hss, _, hcell, hws⟩
  · simp [Value.cells] at hcs
    obtain ⟨rfl, rfl, rfl⟩ := hcs
    exact ⟨[], rfl, by simp, fun l hl => by simp at hl, fun i hi => by simp at hi⟩
  · simp [Value.cells] at hcs
    obtain ⟨rfl, rfl, rfl⟩ := hcs
    have hsl : n ≤ ss.length := by rw [hss]; split <;> omega
    refine ⟨(ss.take n).map (·.data.toList), by simp; omega, by unfold maxLen at hm; simp; omega, fun l hl => ?_, fun i hi => ?_⟩
    · obtain ⟨s, hs, rfl⟩ := List.mem_map.1 hl
      have := hws s (List.mem_of_mem_take hs)
      unfold maxLen at this
      exact this
    · have hin : i < n := by simp at hi; omega
      have h0 := hcell 0 (by omega)
      have ha0 : a'.add 0 = a' := by simp [Addr.add]
      rw [ha0] at h0
      have hpl := addr_plain h0
      have hi' := hcell i (by omega)
      rw [hpl, addr_add] at hi'
      refine ⟨a'.block, a'.off, by rw [← hpl], World.block_lt_of_cell? W a' h0, ?_⟩
      rw [hi']
      have hi2 : i < ss.length := by omega
      simp [List.getD_eq_getElem?_getD, hi2]
end Go.Proofs.YtcobfoiajdbahaaDoor

namespace Go.Proofs.YtcobfoiajdbahaaDoor
open Go.RowKit Go.ChangeShapes Go.WideShapes Go.Deep

theorem open_rows {α : Type} {H : Type} {enc : TypeId × Value → H} {P : Program} {W : World} {base : Nat} {sp : Nat → Bool} {held : Bool} {t e : TypeId} {fs : Array Field} {k : Nat} {a : Option Addr} {n c : Nat} {d : DataW H} {p : List MemPlace}
    (cs : α → List Value) (Q : α → Prop) (ht : P.underlying t = some (.slice e)) (he : P.underlying e = some (.struct fs)) (hone : oneCellFields P fs = true) (hC : P.cellsOf e = fs.size) (hk : fs.size = k) (hk0 : 0 < k)
    (ex : ∀ vs : Nat → Value, (∀ (j : Nat) (f : Field), fs[j]? = some f → ∃ m y, DataW.trod enc P W base sp held m f.type [vs j] = some y) → ∃ x : α, Q x ∧ ∀ j, j < k → (cs x)[j]? = some (vs j))
    (h : DataW.Trod enc P W base sp held t (.slice a n c) d p) :
    ∃ l : List α, l.length = n ∧ l.length ≤ 9223372036854775807 ∧ (∀ x ∈ l, Q x) ∧ RowsAt k cs W a l ∧ n ≤ c ∧ (a = none → c = 0) := by
  obtain ⟨fuel, hf⟩ := h
  rcases open_slice ht hf with ⟨hcs, _⟩ | ⟨a', len, cap, m, mm, D, Pl, hcs, hb, hle, hm, hmm, hx, hi⟩
  · simp [Value.cells] at hcs
    obtain ⟨rfl, rfl, rfl⟩ := hcs
    exact ⟨[], rfl, by simp, fun x hx => by simp at hx, fun i hi => by simp at hi, Nat.le_refl _, fun _ => rfl⟩
  · simp [Value.cells] at hcs
    obtain ⟨rfl, rfl, rfl⟩ := hcs
    have hlm : n ≤ m := by rw [hmm]; split <;> omega
    have hcell : ∀ i, i < n → ∃ cs' : List Value, cs'.length = k ∧ (∀ j (hj : j < k), W.cell? (a'.add (i * k + j)) = cs'[j]?) ∧ ∀ (j : Nat) (f : Field), fs[j]? = some f → ∃ m y, DataW.trod enc P W base sp held m f.type [cs'.getD j default] = some y := by
      intro i hin
      obtain ⟨cs', hc, ht'⟩ := hi i (by omega)
      rw [hC, hk] at hc
      obtain ⟨ys, n', hn', hy, hlen, hyl, hfl⟩ := DataW.trod_struct he ht'
      obtain ⟨_, hcl, hat⟩ := World.cells?_some hc
      refine ⟨cs', hcl, fun j hj => by rw [← Go.Deep.add_add]; exact hat j hj, fun j f hj => ?_⟩
      obtain ⟨ho, hk1⟩ := hone_of hone j f hj
      have hjl : j < fs.size := (Array.getElem?_eq_some_iff.1 hj).1
      have h1 := hfl j f hj
      rw [ho, hk1] at h1
      have hone' : (cs'.drop j).take 1 = [cs'.getD j default] := by
        rw [List.drop_eq_getElem_cons (by omega), List.getD_eq_getElem?_getD, List.getElem?_eq_getElem (by omega)]
        rfl
      rw [hone'] at h1
      have hys : ys[j]? = some (ys[j]'(by omega)) := List.getElem?_eq_getElem (by omega)
      exact ⟨n', _, h1.trans hys⟩
    have each : ∀ i, i < n → ∃ x : α, Q x ∧ ∃ b o, a' = ⟨b, o, none⟩ ∧ b < W.heap.size ∧ ∀ j, j < k → W.cell? ⟨b, o + i * k + j, none⟩ = (cs x)[j]? := by
      intro i hin
      obtain ⟨c0, hl0, hc0, _⟩ := hcell 0 (by omega)
      have h00 := hc0 0 hk0
      rw [Nat.zero_mul, Nat.add_zero, List.getElem?_eq_getElem (by omega), show a'.add 0 = a' by simp [Addr.add]] at h00
      have hspot := addr_plain h00
      obtain ⟨cs', hcl, hat, hfl⟩ := hcell i hin
      obtain ⟨x, hQ, hxc⟩ := ex (fun j => cs'.getD j default) hfl
      refine ⟨x, hQ, a'.block, a'.off, hspot, World.block_lt_of_cell? W _ h00, fun j hj => ?_⟩
      have := hat j hj
      rw [hspot, addr_add] at this
      rw [Nat.add_assoc, this, hxc j hj, List.getD_eq_getElem?_getD, List.getElem?_eq_getElem (by omega)]
      rfl
    refine ⟨List.ofFn (n := n) fun i => (each i i.2).choose, by simp, by unfold maxLen at hm; simp; omega, fun x hx => ?_, fun i hi => ?_, hle, fun h => by cases h⟩
    · obtain ⟨i, hi⟩ := (List.mem_ofFn ..).1 hx
      rw [← hi]
      exact (each i i.2).choose_spec.1
    · have hin : i < n := by simpa using hi
      obtain ⟨b, o, ha, hlt, hc⟩ := (each i hin).choose_spec.2
      refine ⟨b, o, by rw [ha], hlt, fun j hj => ?_⟩
      rw [hc j hj]
      simp
/-- The same of one cell that holds a slice. -/
theorem open_rows1 {α : Type} {H : Type} {enc : TypeId × Value → H} {P : Program} {W : World} {base : Nat} {sp : Nat → Bool} {held : Bool} {t e : TypeId} {fs : Array Field} {k fuel : Nat} {u : Value} {y : DataW H × List MemPlace}
    (cs : α → List Value) (Q : α → Prop) (ht : P.underlying t = some (.slice e)) (he : P.underlying e = some (.struct fs)) (hone : oneCellFields P fs = true) (hC : P.cellsOf e = fs.size) (hk : fs.size = k) (hk0 : 0 < k)
    (ex : ∀ vs : Nat → Value, (∀ (j : Nat) (f : Field), fs[j]? = some f → ∃ m y, DataW.trod enc P W base sp held m f.type [vs j] = some y) → ∃ x : α, Q x ∧ ∀ j, j < k → (cs x)[j]? = some (vs j))
    (h : DataW.trod enc P W base sp held fuel t [u] = some y) :
    ∃ (a : Option Addr) (c : Nat) (l : List α), u = .slice a l.length c ∧ l.length ≤ 9223372036854775807 ∧ (∀ x ∈ l, Q x) ∧ RowsAt k cs W a l ∧ l.length ≤ c ∧ (a = none → c = 0) := by
  have hu : ∃ a n c, u = .slice a n c := by
    rcases open_slice ht h with ⟨hcs, _⟩ | ⟨a', len, cap, m, mm, D, Pl, hcs, _⟩
    · exact ⟨none, 0, 0, by simpa using hcs⟩
    · exact ⟨_, _, _, by simpa using hcs⟩
  obtain ⟨a, n, c, rfl⟩ := hu
  obtain ⟨l, h1, h2, h3, h4, h5, h6⟩ := open_rows (n := n) (c := c) (a := a) (d := y.1) (p := y.2) cs Q ht he hone hC hk hk0 ex ⟨fuel, by simpa [Value.cells] using h⟩
  subst h1
  exact ⟨a, c, l, rfl, h2, h3, h4, h5, h6⟩
end Go.Proofs.YtcobfoiajdbahaaDoor

namespace Go.Proofs.YtcobfoiajdbahaaDoor
open Go.RowKit Go.ChangeShapes Go.WideShapes Go.Deep Go.Joins

theorem u64_bdQ {x : Int} (h : (Lit.int .u64 x).wf = true) : 0 ≤ x ∧ x < 18446744073709551616 := by
  simp [Lit.wf, IntKind.min, IntKind.max, IntKind.signed, IntKind.bits] at h
  omega
theorem u8_bdQ {z : Int} (h : (Lit.int .u8 z).wf = true) : 0 ≤ z ∧ z < 256 := by
  simp [Lit.wf, IntKind.min, IntKind.max, IntKind.signed, IntKind.bits] at h
  omega
theorem i64_bdQ {x : Int} (h : (Lit.int .i64 x).wf = true) : -9223372036854775808 ≤ x ∧ x ≤ 9223372036854775807 := by
  simp [Lit.wf, IntKind.min, IntKind.max, IntKind.signed, IntKind.bits] at h
  omega
section
variable {H : Type} {enc : TypeId × Value → H} {W : World} {base : Nat} {sp : Nat → Bool} {held : Bool}
theorem cell_u8 {n : Nat} {u : Value} {y : DataW H × List MemPlace} (h : DataW.trod enc Tryd.prog W base sp held n 5 [u] = some y) : ∃ q : Nat, q < 256 ∧ u = .int .u8 (q : Int) := by
  obtain ⟨z, e, _, b⟩ := DataW.trod_int Tryd.underlying5 h
  have hb := u8_bdQ b
  exact ⟨z.toNat, by omega, by rw [show ((z.toNat : Nat) : Int) = z by omega]; simpa using e⟩
theorem cell_u64 {n : Nat} {u : Value} {y : DataW H × List MemPlace} (h : DataW.trod enc Tryd.prog W base sp held n 22 [u] = some y) : ∃ q : Nat, q < 18446744073709551616 ∧ u = V64 q := by
  obtain ⟨z, e, _, b⟩ := DataW.trod_int Tryd.underlying22 h
  have hb := u64_bdQ b
  exact ⟨z.toNat, by omega, by show u = .int .u64 _; rw [show ((z.toNat : Nat) : Int) = z by omega]; simpa using e⟩
theorem cell_int {n : Nat} {u : Value} {y : DataW H × List MemPlace} (h : DataW.trod enc Tryd.prog W base sp held n 3 [u] = some y) : ∃ z : Int, (-9223372036854775808 ≤ z ∧ z ≤ 9223372036854775807) ∧ u = .int .i64 z := by
  obtain ⟨z, e, _, b⟩ := DataW.trod_int Tryd.underlying3 h
  exact ⟨z, i64_bdQ b, by simpa using e⟩
theorem cell_str {n : Nat} {u : Value} {y : DataW H × List MemPlace} (h : DataW.trod enc Tryd.prog W base sp held n 9 [u] = some y) : ∃ s : List UInt8, s.length ≤ 9223372036854775807 ∧ u = S s := by
  obtain ⟨⟨⟨s⟩⟩, e, _, b⟩ := DataW.trod_string Tryd.underlying9 h
  exact ⟨s, by have h := b; unfold maxLen at h; exact h, by simpa using e⟩
set_option maxRecDepth 100000 in
theorem cells_ad {n : Nat} {a b c : Value} {y : DataW H × List MemPlace} (h : DataW.trod enc Tryd.prog W base sp held n 24 [a, b, c] = some y) : ∃ x : P.Ad, P.tyA x ∧ a = .int .u8 (x.fam : Nat) ∧ b = V64 x.hi ∧ c = V64 x.lo := by
  obtain ⟨ys, n', _, _, _, hyl, hfl⟩ := DataW.trod_struct (show Tryd.prog.underlying 24 = some (.struct (Tryd.prog.fieldsOf 24)) by kernel_rfl) h
  have g0 := hfl 0 _ rfl
  have g1 := hfl 1 _ rfl
  have g2 := hfl 2 _ rfl
  have hy : ys.length = 3 := hyl
  obtain ⟨q0, q1, q2, rfl⟩ : ∃ q0 q1 q2, ys = [q0, q1, q2] := by
    match ys, hy with
    | [q0, q1, q2], _ => exact ⟨q0, q1, q2, rfl⟩
  have g0 : DataW.trod enc Tryd.prog W base sp held n' 5 [a] = some q0 := g0
  have g1 : DataW.trod enc Tryd.prog W base sp held n' 22 [b] = some q1 := g1
  have g2 : DataW.trod enc Tryd.prog W base sp held n' 22 [c] = some q2 := g2
  obtain ⟨f, hf, e0⟩ := cell_u8 g0
  obtain ⟨i, hi, e1⟩ := cell_u64 g1
  obtain ⟨l, hl, e2⟩ := cell_u64 g2
  exact ⟨⟨f, i, l⟩, ⟨hf, hi, hl⟩, e0, e1, e2⟩
set_option maxRecDepth 100000 in
theorem cells_px {n : Nat} {a b c d : Value} {y : DataW H × List MemPlace} (h : DataW.trod enc Tryd.prog W base sp held n 26 [a, b, c, d] = some y) : ∃ x : P.Px, P.tyX x ∧ a = .int .u8 (x.a.fam : Nat) ∧ b = V64 x.a.hi ∧ c = V64 x.a.lo ∧ d = .int .i64 x.bits := by
  obtain ⟨ys, n', _, _, _, hyl, hfl⟩ := DataW.trod_struct (show Tryd.prog.underlying 26 = some (.struct (Tryd.prog.fieldsOf 26)) by kernel_rfl) h
  have g0 := hfl 0 _ rfl
  have g1 := hfl 1 _ rfl
  have hy : ys.length = 2 := hyl
  obtain ⟨q0, q1, rfl⟩ : ∃ q0 q1, ys = [q0, q1] := by
    match ys, hy with
    | [q0, q1], _ => exact ⟨q0, q1, rfl⟩
  have g0 : DataW.trod enc Tryd.prog W base sp held n' 24 [a, b, c] = some q0 := g0
  have g1 : DataW.trod enc Tryd.prog W base sp held n' 3 [d] = some q1 := g1
  obtain ⟨x, hx, e0, e1, e2⟩ := cells_ad g0
  obtain ⟨z, hz, e3⟩ := cell_int g1
  exact ⟨⟨x, z⟩, ⟨hx, hz.1, hz.2⟩, e0, e1, e2, e3⟩
end
set_option maxRecDepth 100000 in
/-- A call's reading. -/
theorem open_call {H : Type} {enc : TypeId × Value → H} {W : World} {base b0 : Nat} {r : Reach} {sp : Nat → Bool} {held : Bool} {v : Value} {d : DataW H} {p : List MemPlace}
    (hv : Value.okWide Tryd.prog W r b0 28 v) (h : DataW.Trod enc Tryd.prog W base sp held 28 v d p) :
    ∃ x : P.Ca, v = caV x ∧ P.tyC x ∧ x.owner.length ≤ 9223372036854775807 ∧ x.to.length ≤ 9223372036854775807 := by
  have hs : Tryd.prog.underlying 28 = some (.struct (Tryd.prog.fieldsOf 28)) := by kernel_rfl
  have hC : Tryd.prog.cellsOf 28 = 15 := by kernel_rfl
  obtain ⟨cs, rfl, hsz⟩ := okWide_struct hs hv
  obtain ⟨fuel, hf⟩ := h
  obtain ⟨ys, n, _, _, _, hyl, hfl⟩ := DataW.trod_struct hs hf
  have hcl : cs.toList.length = 15 := by rw [hC] at hsz; simpa using hsz
  obtain ⟨v0, v1, v2, v3, v4, v5, v6, v7, v8, v9, v10, v11, v12, v13, v14, hcs⟩ : ∃ v0 v1 v2 v3 v4 v5 v6 v7 v8 v9 v10 v11 v12 v13 v14, cs.toList = [v0, v1, v2, v3, v4, v5, v6, v7, v8, v9, v10, v11, v12, v13, v14] := by
    match cs.toList, hcl with
    | [v0, v1, v2, v3, v4, v5, v6, v7, v8, v9, v10, v11, v12, v13, v14], _ => exact ⟨v0, v1, v2, v3, v4, v5, v6, v7, v8, v9, v10, v11, v12, v13, v14, rfl⟩
  obtain rfl : cs = #[v0, v1, v2, v3, v4, v5, v6, v7, v8, v9, v10, v11, v12, v13, v14] := by rw [← Array.toArray_toList (xs := cs), hcs]
  clear hcs hcl hsz
  have hy : ys.length = 10 := hyl
  obtain ⟨q0, q1, q2, q3, q4, q5, q6, q7, q8, q9, rfl⟩ : ∃ q0 q1 q2 q3 q4 q5 q6 q7 q8 q9, ys = [q0, q1, q2, q3, q4, q5, q6, q7, q8, q9] := by
    match ys, hy with
    | [q0, q1, q2, q3, q4, q5, q6, q7, q8, q9], _ => exact ⟨q0, q1, q2, q3, q4, q5, q6, q7, q8, q9, rfl⟩
  have g0 : DataW.trod enc Tryd.prog W base sp held n 5 [v0] = some q0 := hfl 0 _ rfl
  have g1 : DataW.trod enc Tryd.prog W base sp held n 5 [v1] = some q1 := hfl 1 _ rfl
  have g2 : DataW.trod enc Tryd.prog W base sp held n 22 [v2] = some q2 := hfl 2 _ rfl
  have g3 : DataW.trod enc Tryd.prog W base sp held n 26 [v3, v4, v5, v6] = some q3 := hfl 3 _ rfl
  have g4 : DataW.trod enc Tryd.prog W base sp held n 24 [v7, v8, v9] = some q4 := hfl 4 _ rfl
  have g5 : DataW.trod enc Tryd.prog W base sp held n 9 [v10] = some q5 := hfl 5 _ rfl
  have g6 : DataW.trod enc Tryd.prog W base sp held n 9 [v11] = some q6 := hfl 6 _ rfl
  have g7 : DataW.trod enc Tryd.prog W base sp held n 22 [v12] = some q7 := hfl 7 _ rfl
  have g8 : DataW.trod enc Tryd.prog W base sp held n 22 [v13] = some q8 := hfl 8 _ rfl
  have g9 : DataW.trod enc Tryd.prog W base sp held n 3 [v14] = some q9 := hfl 9 _ rfl
  obtain ⟨op, h0, rfl⟩ := cell_u8 g0
  obtain ⟨cl, h1, rfl⟩ := cell_u8 g1
  obtain ⟨nu, h2, rfl⟩ := cell_u64 g2
  obtain ⟨px, h3, rfl, rfl, rfl, rfl⟩ := cells_px g3
  obtain ⟨ad, h4, rfl, rfl, rfl⟩ := cells_ad g4
  obtain ⟨o, h5, rfl⟩ := cell_str g5
  obtain ⟨t, h6, rfl⟩ := cell_str g6
  obtain ⟨d', h7, rfl⟩ := cell_u64 g7
  obtain ⟨f, h8, rfl⟩ := cell_u64 g8
  obtain ⟨z, h9, rfl⟩ := cell_int g9
  exact ⟨⟨op, cl, nu, px, ad, o, t, d', f, z⟩, rfl, ⟨h0, h1, h2, h3, h4, h7, h8, h9.1, h9.2⟩, h5, h6⟩
end Go.Proofs.YtcobfoiajdbahaaDoor

namespace Go.Proofs.YtcobfoiajdbahaaDoor
open Go.RowKit
set_option linter.unusedVariables false
set_option linter.unusedSimpArgs false
theorem guardAd : Tryd.prog.eqGuardType Tryd.prog.depth 24 = false := by kernel_rfl
set_option maxRecDepth 100000 in
set_option maxHeartbeats 4000000 in
theorem eq_Ad (a0 b0 a1 b1 a2 b2 : Int) (w : World) : (Op.equalIn 10000 24 (.agg #[.int .u8 a0, .int .u64 a1, .int .u64 a2]) (.agg #[.int .u8 b0, .int .u64 b1, .int .u64 b2])).run Tryd.prog w = .ok (P.eqI [a0, a1, a2] [b0, b1, b2] [] []) w := by
  have hf := fieldsAdL
  rw [run_equalIn_struct w 9999 _ _ _ fieldsAd stoodAd]
  have hl := congrArg List.length hf
  generalize (Tryd.prog.fieldsOf 24).toList = fs at hf hl
  match fs, (by simpa using hl : fs.length = 3) with
  | [f0, f1, f2], _ =>
    simp only [List.map_cons, List.map_nil, List.cons.injEq, Prod.mk.injEq, and_true, beq_eq_false_iff_ne] at hf
    obtain ⟨⟨n0, t0, o0⟩, ⟨n1, t1, o1⟩, n2, t2, o2⟩ := hf
    simp only [Op.eqFields, t0, o0, t1, o1, t2, o2]
    simp [go_sem, part, n0, n1, n2]
    simp only [ite_okQ]
    congr 1
    unfold P.eqI
    rw [Bool.eq_iff_iff]
    simp only [Bool.and_eq_true, decide_eq_true_eq, List.cons.injEq, and_true]
    try (constructor <;> (intro h; simp [h]))
theorem structAd : Tryd.prog.underlying 24 = some (.struct (Tryd.prog.fieldsOf 24)) := by kernel_rfl
attribute [local go_sem high] eq_Call guardCall eq_Ad guardAd

def P.askC : P.Ca := ⟨5, 9, 7, P.noX, ⟨4, 0, 16909060⟩, [97], [], 10, 0, 0⟩
def P.someA : P.An := ⟨⟨4, 0, 16909060⟩, [97], 15, P.noX, false, false, false, 0, [], [], []⟩
theorem P.ask_right : P.rightC P.askC = true := by decide
theorem P.ask_ty : P.tyC P.askC := ⟨by decide, by decide, by decide, P.ty_noX, ⟨by decide, by decide, by decide⟩, by decide, by decide, by decide, by decide⟩
theorem P.ask_bytes : P.bytesC P.askC = [5, 9, 0, 0, 0, 0, 0, 0, 0, 7, 4, 1, 2, 3, 4, 1, 97, 10] := by decide
theorem P.some_ty : P.tyAn P.someA := ⟨⟨by decide, by decide, by decide⟩, by decide, P.ty_noX, by decide, fun r h => (by cases h), fun r h => (by cases h), fun r h => (by cases h)⟩
theorem P.ask_tell : P.tellB 5 9 7 P.someA 0 = [0, 5, 9, 0, 0, 0, 0, 0, 0, 0, 7, 4, 1, 2, 3, 4, 1, 97, 15] := by decide
theorem told_ok57 (op : Nat) (h : 5 ≤ op ∧ op ≤ 7) : ToldOk op := fun g q w hs hx =>
  (told_lease g q op h w (by omega) hx).mono fun e w' h' => ⟨none, 0, none, 0, none, 0, h'.1, OwnAns.none _ _ _ (by unfold P.qTold; rw [if_pos h]; rfl) (by unfold P.qTold; rw [if_pos h]; rfl) (by unfold P.qTold; rw [if_pos h]; rfl), h'.2⟩
abbrev askV : Value := .agg #[.int .u8 5, .int .u8 9, .int .u64 7, .int .u8 0, .int .u64 0, .int .u64 0, .int .i64 0, .int .u8 4, .int .u64 0, .int .u64 16909060, .string ⟨#[97]⟩, .string ⟨#[]⟩, .int .u64 10, .int .u64 0, .int .i64 0]
abbrev someV : Value := .agg #[.int .u8 4, .int .u64 0, .int .u64 16909060, .string ⟨#[97]⟩, .int .u64 15, .int .u8 0, .int .u64 0, .int .u64 0, .int .i64 0, .bool false, .bool false, .bool false, .int .u64 0, .slice none 0 0, .slice none 0 0, .slice none 0 0]
theorem write_ask (w : World) (hu : UsesOk w) : Calls Tryd.prog 13 #[askV] w fun e w' => e = .returned (.tuple #[.string ⟨#[5, 9, 0, 0, 0, 0, 0, 0, 0, 7, 4, 1, 2, 3, 4, 1, 97, 10]⟩, .int .i64 0]) ∧ Below w.heap.size w w' := by
  have h := write_any P.askC P.ask_ty (by decide) (by decide) w hu
  rw [if_pos P.ask_right, P.ask_bytes] at h
  exact h
theorem read_ask (w : World) (hu : UsesOk w) : Calls Tryd.prog 17 #[.string ⟨#[5, 9, 0, 0, 0, 0, 0, 0, 0, 7, 4, 1, 2, 3, 4, 1, 97, 10]⟩] w fun e w' => e = .returned (.tuple #[askV, .bool true]) ∧ Below w.heap.size w w' := by
  have h := read_any [5, 9, 0, 0, 0, 0, 0, 0, 0, 7, 4, 1, 2, 3, 4, 1, 97, 10] (by decide) w hu
  have hr := P.read_right P.ask_right P.ask_ty
  rw [P.ask_bytes] at hr
  rw [hr.1, hr.2] at h
  exact h
theorem tell_ask (w : World) : Calls Tryd.prog 21 #[askV, someV, .int .i64 0] w fun e w' => e = .returned (.string ⟨#[0, 5, 9, 0, 0, 0, 0, 0, 0, 0, 7, 4, 1, 2, 3, 4, 1, 97, 15]⟩) ∧ Below w.heap.size w w' := by
  have h := tell_lease P.askC P.someA none 0 none 0 none 0 P.ask_ty P.some_ty (by decide) (by decide) w
  rw [show P.tellB P.askC.op P.askC.client P.askC.number P.someA 0 = [0, 5, 9, 0, 0, 0, 0, 0, 0, 0, 7, 4, 1, 2, 3, 4, 1, 97, 15] from P.ask_tell] at h
  exact h
theorem P.ask_heard : P.hearOk [0, 5, 9, 0, 0, 0, 0, 0, 0, 0, 7, 4, 1, 2, 3, 4, 1, 97, 15] = true ∧ P.hearC [0, 5, 9, 0, 0, 0, 0, 0, 0, 0, 7, 4, 1, 2, 3, 4, 1, 97, 15] = P.headC (5, 9, 7) ∧ P.hearA [0, 5, 9, 0, 0, 0, 0, 0, 0, 0, 7, 4, 1, 2, 3, 4, 1, 97, 15] = P.someA ∧ P.hearN [0, 5, 9, 0, 0, 0, 0, 0, 0, 0, 7, 4, 1, 2, 3, 4, 1, 97, 15] = 0 ∧ (P.hearE [0, 5, 9, 0, 0, 0, 0, 0, 0, 0, 7, 4, 1, 2, 3, 4, 1, 97, 15]).1 = 0 ∧ (P.hearH [0, 5, 9, 0, 0, 0, 0, 0, 0, 0, 7, 4, 1, 2, 3, 4, 1, 97, 15]).1.1 = 5 := by
  have h := P.hear_app 5 9 7 P.someA 0 [] (by decide) (by decide) (by decide) P.some_ty (by decide) (fun _ => by decide)
  rw [P.ask_tell, List.append_nil] at h
  obtain ⟨h1, h2, h3, h4⟩ := h
  have ho : P.hearOk [0, 5, 9, 0, 0, 0, 0, 0, 0, 0, 7, 4, 1, 2, 3, 4, 1, 97, 15] = true := h1.trans (by decide)
  refine ⟨ho, ?_, ?_, ?_, h3, by rw [h2]⟩
  · unfold P.hearC; rw [if_pos ho, h2]
  · unfold P.hearA; rw [if_pos ho, h4 (by decide), if_pos rfl]; decide
  · unfold P.hearN; rw [if_pos ho, h3]; rfl
theorem hear_ask (w : World) : Calls Tryd.prog 23 #[.string ⟨#[0, 5, 9, 0, 0, 0, 0, 0, 0, 0, 7, 4, 1, 2, 3, 4, 1, 97, 15]⟩] w fun e w' => ∃ r rc v vc p pc, e = .returned (.tuple #[.agg #[.int .u8 5, .int .u8 9, .int .u64 7, .int .u8 0, .int .u64 0, .int .u64 0, .int .i64 0, .int .u8 0, .int .u64 0, .int .u64 0, .string ⟨#[]⟩, .string ⟨#[]⟩, .int .u64 0, .int .u64 0, .int .i64 0], .agg #[.int .u8 4, .int .u64 0, .int .u64 16909060, .string ⟨#[97]⟩, .int .u64 15, .int .u8 0, .int .u64 0, .int .u64 0, .int .i64 0, .bool false, .bool false, .bool false, .int .u64 0, .slice r 0 rc, .slice v 0 vc, .slice p 0 pc], .int .i64 0, .bool true]) ∧ Below w.heap.size w w' := by
  obtain ⟨h1, h2, h3, h4, h5, h6⟩ := P.ask_heard
  refine (hear_ok [0, 5, 9, 0, 0, 0, 0, 0, 0, 0, 7, 4, 1, 2, 3, 4, 1, 97, 15] (by decide) h5 (by rw [h6]; exact told_ok57 5 (by decide)) w).mono fun e w' h => ?_
  obtain ⟨r, rc, v, vc, p, pc, h, -, hb⟩ := h
  rw [h1, h2, h3, h4] at h
  exact ⟨r, rc, v, vc, p, pc, h, hb⟩
set_option maxRecDepth 100000 in
theorem some26_any (w : World) : Calls Tryd.prog 30 #[] w fun e w' => e = .returned (.agg #[.int .u8 4, .int .u64 0, .int .u64 16909060]) ∧ Below w.heap.size w w' := by
  have h0 := Bx.fresh w 24 #[.int .u8 0, .int .u64 0, .int .u64 0]
  have hA := (Below.refl w.heap.size w).alloc (Nat.le_refl _) (.cells #[.int .u8 0, .int .u64 0, .int .u64 0] 24)
  go_enter Tryd.func30, Tryd.ntmps30
  go_wp2_with (refine wpList_stB (by rfl) _ _ _ (by rfl) h0 _ _ (by rfl) (by rfl) 3 3 (by rfl) (by rfl) (by decide) infoAd (by rfl) (by rfl) ?_; intro w1 hz' hb1; have h1 : Bx w1 w.heap.size 24 #[.int .u8 4, .int .u64 0, .int .u64 16909060] := hz'; clear hz')
  exact bodyPost_ret (results_box rfl (by rfl) (loadB h1 structAd infoAd rfl)) rfl ⟨rfl, hA.trans (hb1.below (Nat.le_refl _) hA.size)⟩
set_option maxRecDepth 100000 in
theorem ask_any (w : World) : Calls Tryd.prog 28 #[] w fun e w' => e = .returned askV ∧ Below w.heap.size w w' := by
  have h0 := Bx.fresh w 28 #[.int .u8 0, .int .u8 0, .int .u64 0, .int .u8 0, .int .u64 0, .int .u64 0, .int .i64 0, .int .u8 0, .int .u64 0, .int .u64 0, .string ⟨#[]⟩, .string ⟨#[]⟩, .int .u64 0, .int .u64 0, .int .i64 0]
  have hA := (Below.refl w.heap.size w).alloc (Nat.le_refl _) (.cells #[.int .u8 0, .int .u8 0, .int .u64 0, .int .u8 0, .int .u64 0, .int .u64 0, .int .i64 0, .int .u8 0, .int .u64 0, .int .u64 0, .string ⟨#[]⟩, .string ⟨#[]⟩, .int .u64 0, .int .u64 0, .int .i64 0] 28)
  go_enter Tryd.func28, Tryd.ntmps28
  go_wp2_with (first
    | (go_at_call 30; (with_reducible refine (some26_any _).mono ?_); rintro e w1 ⟨rfl, hb1⟩; have h1 := h0.up hb1; have hA1 := Chain.up hA hb1)
    | (refine wpList_stB (by rfl) _ _ _ (by rfl) h1 _ _ (by rfl) (by rfl) 15 15 (by rfl) (by rfl) (by decide) infoCall (by rfl) (by rfl) ?_; intro w2 hz' hb2; have h2 : Bx w2 w.heap.size 28 #[.int .u8 5, .int .u8 9, .int .u64 7, .int .u8 0, .int .u64 0, .int .u64 0, .int .i64 0, .int .u8 4, .int .u64 0, .int .u64 16909060, .string ⟨#[97]⟩, .string ⟨#[]⟩, .int .u64 10, .int .u64 0, .int .i64 0] := hz'; clear hz'))
  exact bodyPost_ret (results_box rfl (by rfl) (loadB h2 structCall infoCall rfl)) rfl ⟨rfl, hA1.trans (hb2.below (Nat.le_refl _) hA1.size)⟩
set_option maxRecDepth 100000 in
set_option maxHeartbeats 16000000 in
theorem awake_any (w : World) (hu : UsesOk w) : Calls Tryd.prog 12 #[] w fun e w' => e = .returned (.bool true) ∧ Below w.heap.size w w' := by
  go_enter Tryd.func12, Tryd.ntmps12
  go_upto_region 3 with (first
    | (go_at_call 28; (with_reducible refine (ask_any _).mono ?_); rintro e w1 ⟨rfl, hb1⟩)
    | (go_at_call 13; (with_reducible refine (write_ask _ (hu.up hb1)).mono ?_); rintro e w2 ⟨rfl, hb2⟩; have hc2 := Chain.up hb1 hb2)
    | (go_at_call 17; (with_reducible refine (read_ask _ (hu.up hc2)).mono ?_); rintro e w3 ⟨rfl, hb3⟩; have hc3 := Chain.up hc2 hb3; have h30 := Bx.fresh w3 28 #[.int .u8 0, .int .u8 0, .int .u64 0, .int .u8 0, .int .u64 0, .int .u64 0, .int .i64 0, .int .u8 0, .int .u64 0, .int .u64 0, .string ⟨#[]⟩, .string ⟨#[]⟩, .int .u64 0, .int .u64 0, .int .i64 0]; have hB3 := (Below.refl w3.heap.size w3).alloc (Nat.le_refl _) (.cells #[.int .u8 0, .int .u8 0, .int .u64 0, .int .u8 0, .int .u64 0, .int .u64 0, .int .i64 0, .int .u8 0, .int .u64 0, .int .u64 0, .string ⟨#[]⟩, .string ⟨#[]⟩, .int .u64 0, .int .u64 0, .int .i64 0] 28))
    | (refine wpList_stB (by rfl) _ _ _ (by rfl) h30 _ _ (by rfl) (by rfl) 15 15 (by rfl) (by rfl) (by decide) infoCall (by rfl) (by rfl) ?_; intro w4 hz' hb4; have h4 : Bx w4 w3.heap.size 28 #[.int .u8 5, .int .u8 9, .int .u64 7, .int .u8 0, .int .u64 0, .int .u64 0, .int .i64 0, .int .u8 4, .int .u64 0, .int .u64 16909060, .string ⟨#[97]⟩, .string ⟨#[]⟩, .int .u64 10, .int .u64 0, .int .i64 0] := hz'; clear hz'))
  have hc4 := hc3.trans ((hB3.trans (hb4.below (Nat.le_refl _) hB3.size)).mono hc3.size)
  clear h30 hB3 hb4 hb1 hb2 hb3 hc2 hc3
  generalize w3.heap.size = g3 at *
  refine wp_region_held_drew (S := fun wx => Below w4.heap.size w4 wx) (by kernel_rfl) (Below.refl _ _).drew (fun hHeld => ?_)
  refine wpAnyH_take (i := 0) (v := .agg #[.int .u8 5, .int .u8 9, .int .u64 7, .int .u8 0, .int .u64 0, .int .u64 0, .int .i64 0, .int .u8 4, .int .u64 0, .int .u64 16909060, .string ⟨#[97]⟩, .string ⟨#[]⟩, .int .u64 10, .int .u64 0, .int .i64 0]) rfl (by kernel_rfl) (by kernel_rfl) (by kernel_rfl) (fun _ _ _ h => h) (yieldsB (by rfl) _ _ (by rfl) (by rfl) (fun wx h => h4.up h) structCall 15 infoCall (by rfl)) hHeld ?_
  simp only [Act.put, List.getElem_toArray, List.getElem_cons_succ, List.getElem_cons_zero, List.setIfInBounds_toArray, List.set_cons_zero, List.set_cons_succ]
  refine wpAnyH_take (i := 2) (v := ?_) rfl (by kernel_rfl) (by kernel_rfl) (by kernel_rfl) (fun _ _ _ h => h) (Or.inl ⟨by rfl, ?_⟩) hHeld ?_
  rotate_left
  · intro wq hSw; go_simp; (try with_reducible rfl)
  simp only [Act.put, List.getElem_toArray, List.getElem_cons_succ, List.getElem_cons_zero, List.setIfInBounds_toArray, List.set_cons_zero, List.set_cons_succ]
  refine wpAnyH_one (i := 1) (by kernel_rfl) rfl (fun K hK => ?_)
  simp only [List.getElem_toArray, List.getElem_cons_succ, List.getElem_cons_zero]
  go_simp
  (with_reducible refine (some26_any _).mono ?_)
  rintro e w5 ⟨rfl, hb5⟩
  have hS5 := Chain.up hHeld hb5
  refine hK.out _ _ hS5 ?_
  clear hK K
  refine wpAnyH_take (i := 3) (v := someV) rfl (by kernel_rfl) (by kernel_rfl) (by kernel_rfl) (fun _ _ _ h => h) (Or.inl ⟨by rfl, ?_⟩) hS5 ?_
  · intro wq hSw; go_simp; (try with_reducible rfl); (try rfl)
  simp only [Act.put, List.getElem_toArray, List.getElem_cons_succ, List.getElem_cons_zero, List.setIfInBounds_toArray, List.set_cons_zero, List.set_cons_succ]
  refine wpAnyH_one (i := 4) (by kernel_rfl) rfl (fun K hK => ?_)
  simp only [List.getElem_toArray, List.getElem_cons_succ, List.getElem_cons_zero]
  go_simp
  (with_reducible refine (tell_ask _).mono ?_)
  rintro e w6 ⟨rfl, hb6⟩
  have hS6 := Chain.up hS5 hb6
  refine hK.out _ _ hS6 ?_
  clear hK K
  refine wpAnyH_take (i := 5) (v := ?_) rfl (by kernel_rfl) (by kernel_rfl) (by kernel_rfl) (fun _ _ _ h => h) (Or.inl ⟨by rfl, ?_⟩) hS6 ?_
  rotate_left
  · intro wq hSw; go_simp; (try with_reducible rfl)
  simp only [Act.put, List.getElem_toArray, List.getElem_cons_succ, List.getElem_cons_zero, List.setIfInBounds_toArray, List.set_cons_zero, List.set_cons_succ]
  refine wpAnyH_done (by kernel_rfl) ?_ _
  have h6 := h4.up hS6
  have hc6 := Chain.up hc4 hS6
  clear hHeld hS5 hS6 hb5 hb6 h4 hc4
  go_upto_region 5 with (first
    | (go_at_call 23; (with_reducible refine (hear_ask _).mono ?_); rintro e w7 ⟨r, rc, v, vc, p, pc, rfl, hb7⟩; obtain ⟨k1, k2, hB7⟩ := two_bx w7 #[.int .u8 0, .int .u8 0, .int .u64 0, .int .u8 0, .int .u64 0, .int .u64 0, .int .i64 0, .int .u8 0, .int .u64 0, .int .u64 0, .string ⟨#[]⟩, .string ⟨#[]⟩, .int .u64 0, .int .u64 0, .int .i64 0] #[.int .u8 0, .int .u64 0, .int .u64 0, .string ⟨#[]⟩, .int .u64 0, .int .u8 0, .int .u64 0, .int .u64 0, .int .i64 0, .bool false, .bool false, .bool false, .int .u64 0, .slice none 0 0, .slice none 0 0, .slice none 0 0] 28 36; have hc7 := Chain.up hc6 hb7; have h7 := (h6.up hb7).up hB7)
    | (refine wpList_stB (by rfl) _ _ _ (by rfl) k1 _ _ (by rfl) (by rfl) 15 15 (by rfl) (by rfl) (by decide) infoCall (by rfl) (by rfl) ?_; intro w8 hz' hb8; have m1 : Bx w8 w7.heap.size 28 #[.int .u8 5, .int .u8 9, .int .u64 7, .int .u8 0, .int .u64 0, .int .u64 0, .int .i64 0, .int .u8 0, .int .u64 0, .int .u64 0, .string ⟨#[]⟩, .string ⟨#[]⟩, .int .u64 0, .int .u64 0, .int .i64 0] := hz'; clear hz'; have m2 := k2.but hb8 (by omega))
    | (refine wpList_stB (by rfl) _ _ _ (by rfl) m2 _ _ (by rfl) (by rfl) 16 16 (by rfl) (by rfl) (by decide) infoAns (by rfl) (by rfl) ?_; intro w9 hz' hb9; have n2 : Bx w9 (w7.heap.size + 1) 36 #[.int .u8 4, .int .u64 0, .int .u64 16909060, .string ⟨#[97]⟩, .int .u64 15, .int .u8 0, .int .u64 0, .int .u64 0, .int .i64 0, .bool false, .bool false, .bool false, .int .u64 0, .slice r 0 rc, .slice v 0 vc, .slice p 0 pc] := hz'; clear hz'; have n1 := m1.but hb9 (by omega)))
  have hlt6 := (h6.up hb7).lt
  have h9 := (h7.but hb8 (by omega)).but hb9 (by omega)
  have hc9 := Chain.up hc7 ((hB7.trans (hb8.below (Nat.le_refl _) hB7.size)).trans (hb9.below (Nat.le_succ _) (by have := hB7.size; have := hb8.size; omega)))
  clear k1 k2 m1 m2 h6 h7 hb7 hB7 hb8 hb9 hc6 hc7 hlt6
  generalize w7.heap.size = g7 at *
  refine wp_region_held_drew (S := fun wx => Below w9.heap.size w9 wx) (by kernel_rfl) (Below.refl _ _).drew (fun hHeld => ?_)
  refine wpAnyH_take (i := 0) (v := ?_) rfl (by kernel_rfl) (by kernel_rfl) (by kernel_rfl) (fun _ _ _ h => h) (Or.inl ⟨by rfl, ?_⟩) hHeld ?_
  rotate_left
  · intro wq hSw; go_simp; (try with_reducible rfl)
  simp only [Act.put, List.getElem_toArray, List.getElem_cons_succ, List.getElem_cons_zero, List.setIfInBounds_toArray, List.set_cons_zero, List.set_cons_succ]
  refine wpAnyH_take (i := 1) (v := .bool true) rfl (by kernel_rfl) (by kernel_rfl) (by kernel_rfl) (fun _ _ _ h => h) (Or.inl ⟨by rfl, ?_⟩) hHeld ?_
  · intro wq hSw; go_simp; (try (first | (with_reducible rfl) | rfl | (simp; done) | decide))
  simp only [Act.put, List.getElem_toArray, List.getElem_cons_succ, List.getElem_cons_zero, List.setIfInBounds_toArray, List.set_cons_zero, List.set_cons_succ]
  refine wpAnyH_take (i := 2) (v := ?_) rfl (by kernel_rfl) (by kernel_rfl) (by kernel_rfl) (fun _ _ _ h => h) (Or.inl ⟨by rfl, ?_⟩) hHeld ?_
  rotate_left
  · intro wq hSw; go_simp; (try with_reducible rfl)
  simp only [Act.put, List.getElem_toArray, List.getElem_cons_succ, List.getElem_cons_zero, List.setIfInBounds_toArray, List.set_cons_zero, List.set_cons_succ]
  refine wpAnyH_take (i := 3) (v := ?_) rfl (by kernel_rfl) (by kernel_rfl) (by kernel_rfl) (fun _ _ _ h => h) (Or.inl ⟨by rfl, ?_⟩) hHeld ?_
  rotate_left
  · intro wq hSw; go_simp; (try with_reducible rfl)
  simp only [Act.put, List.getElem_toArray, List.getElem_cons_succ, List.getElem_cons_zero, List.setIfInBounds_toArray, List.set_cons_zero, List.set_cons_succ]
  refine wpAnyH_take (i := 4) (v := .bool true) rfl (by kernel_rfl) (by kernel_rfl) (by kernel_rfl) (fun _ _ _ h => h) (Or.inl ⟨by rfl, ?_⟩) hHeld ?_
  · intro wq hSw; go_simp; (try (first | (with_reducible rfl) | rfl | (simp; done) | decide))
  simp only [Act.put, List.getElem_toArray, List.getElem_cons_succ, List.getElem_cons_zero, List.setIfInBounds_toArray, List.set_cons_zero, List.set_cons_succ]
  refine wpAnyH_take (i := 5) (v := .bool true) rfl (by kernel_rfl) (by kernel_rfl) (by kernel_rfl) (fun _ _ _ h => h) (Or.inl ⟨by rfl, ?_⟩) hHeld ?_
  · intro wq hSw; go_simp; (try (first | (with_reducible rfl) | rfl | (simp; done) | decide))
  simp only [Act.put, List.getElem_toArray, List.getElem_cons_succ, List.getElem_cons_zero, List.setIfInBounds_toArray, List.set_cons_zero, List.set_cons_succ]
  refine wpAnyH_take (i := 6) (v := ?_) rfl (by kernel_rfl) (by kernel_rfl) (by kernel_rfl) (fun _ _ _ h => h) (Or.inl ⟨by rfl, ?_⟩) hHeld ?_
  rotate_left
  · intro wq hSw; go_simp; (try with_reducible rfl)
  simp only [Act.put, List.getElem_toArray, List.getElem_cons_succ, List.getElem_cons_zero, List.setIfInBounds_toArray, List.set_cons_zero, List.set_cons_succ]
  refine wpAnyH_take (i := 7) (v := ?_) rfl (by kernel_rfl) (by kernel_rfl) (by kernel_rfl) (fun _ _ _ h => h) (Or.inl ⟨by rfl, ?_⟩) hHeld ?_
  rotate_left
  · intro wq hSw; go_simp; (try with_reducible rfl)
  simp only [Act.put, List.getElem_toArray, List.getElem_cons_succ, List.getElem_cons_zero, List.setIfInBounds_toArray, List.set_cons_zero, List.set_cons_succ]
  refine wpAnyH_take (i := 8) (v := .bool true) rfl (by kernel_rfl) (by kernel_rfl) (by kernel_rfl) (fun _ _ _ h => h) (Or.inl ⟨by rfl, ?_⟩) hHeld ?_
  · intro wq hSw; go_simp; (try (first | (with_reducible rfl) | rfl | (simp; done) | decide))
  simp only [Act.put, List.getElem_toArray, List.getElem_cons_succ, List.getElem_cons_zero, List.setIfInBounds_toArray, List.set_cons_zero, List.set_cons_succ]
  refine wpAnyH_take (i := 9) (v := ?_) rfl (by kernel_rfl) (by kernel_rfl) (by kernel_rfl) (fun _ _ _ h => h) (Or.inl ⟨by rfl, ?_⟩) hHeld ?_
  rotate_left
  · intro wq hSw; go_simp; (try with_reducible rfl)
  simp only [Act.put, List.getElem_toArray, List.getElem_cons_succ, List.getElem_cons_zero, List.setIfInBounds_toArray, List.set_cons_zero, List.set_cons_succ]
  refine wpAnyH_take (i := 10) (v := .agg #[.int .u8 5, .int .u8 9, .int .u64 7, .int .u8 0, .int .u64 0, .int .u64 0, .int .i64 0, .int .u8 4, .int .u64 0, .int .u64 16909060, .string ⟨#[97]⟩, .string ⟨#[]⟩, .int .u64 10, .int .u64 0, .int .i64 0]) rfl (by kernel_rfl) (by kernel_rfl) (by kernel_rfl) (fun _ _ _ h => h) (yieldsB (by rfl) _ _ (by rfl) (by rfl) (fun wx h => h9.up h) structCall 15 infoCall (by rfl)) hHeld ?_
  simp only [Act.put, List.getElem_toArray, List.getElem_cons_succ, List.getElem_cons_zero, List.setIfInBounds_toArray, List.set_cons_zero, List.set_cons_succ]
  refine wpAnyH_one (i := 11) (by kernel_rfl) rfl (fun K hK => ?_)
  simp only [List.getElem_toArray, List.getElem_cons_succ, List.getElem_cons_zero]
  rw [if_pos (by rfl)]
  go_simp
  (with_reducible refine (ask_any _).mono ?_)
  rintro e u1 ⟨rfl, hb10⟩
  have hS1 := Chain.up hHeld hb10
  refine hK.out _ _ hS1 ?_
  clear hK K
  refine wpAnyH_take (i := 12) (v := .bool true) rfl (by kernel_rfl) (by kernel_rfl) (by kernel_rfl) (fun _ _ _ h => h) (Or.inl ⟨by rfl, ?_⟩) hS1 ?_
  · intro wq hSw; go_simp; (try (first | (with_reducible rfl) | rfl | (simp; done) | decide))
  simp only [Act.put, List.getElem_toArray, List.getElem_cons_succ, List.getElem_cons_zero, List.setIfInBounds_toArray, List.set_cons_zero, List.set_cons_succ]
  refine wpAnyH_take (i := 13) (v := .bool true) rfl (by kernel_rfl) (by kernel_rfl) (by kernel_rfl) (fun _ _ _ h => h) (Or.inl ⟨by rfl, ?_⟩) hS1 ?_
  · intro wq hSw; go_simp; (try (first | (with_reducible rfl) | rfl | (simp; done) | decide))
  simp only [Act.put, List.getElem_toArray, List.getElem_cons_succ, List.getElem_cons_zero, List.setIfInBounds_toArray, List.set_cons_zero, List.set_cons_succ]
  refine wpAnyH_take (i := 14) (v := ?_) rfl (by kernel_rfl) (by kernel_rfl) (by kernel_rfl) (fun _ _ _ h => h) (Or.inl ⟨by rfl, ?_⟩) hS1 ?_
  rotate_left
  · intro wq hSw; go_simp; (try with_reducible rfl)
  simp only [Act.put, List.getElem_toArray, List.getElem_cons_succ, List.getElem_cons_zero, List.setIfInBounds_toArray, List.set_cons_zero, List.set_cons_succ]
  refine wpAnyH_take (i := 15) (v := ?_) rfl (by kernel_rfl) (by kernel_rfl) (by kernel_rfl) (fun _ _ _ h => h) (Or.inl ⟨by rfl, ?_⟩) hS1 ?_
  rotate_left
  · intro wq hSw; go_simp; (try with_reducible rfl)
  simp only [Act.put, List.getElem_toArray, List.getElem_cons_succ, List.getElem_cons_zero, List.setIfInBounds_toArray, List.set_cons_zero, List.set_cons_succ]
  refine wpAnyH_take (i := 16) (v := .bool true) rfl (by kernel_rfl) (by kernel_rfl) (by kernel_rfl) (fun _ _ _ h => h) (Or.inl ⟨by rfl, ?_⟩) hS1 ?_
  · intro wq hSw; go_simp; (try (first | (with_reducible rfl) | rfl | (simp; done) | decide))
  simp only [Act.put, List.getElem_toArray, List.getElem_cons_succ, List.getElem_cons_zero, List.setIfInBounds_toArray, List.set_cons_zero, List.set_cons_succ]
  refine wpAnyH_take (i := 17) (v := .bool true) rfl (by kernel_rfl) (by kernel_rfl) (by kernel_rfl) (fun _ _ _ h => h) (Or.inl ⟨by rfl, ?_⟩) hS1 ?_
  · intro wq hSw; go_simp; (try (first | (with_reducible rfl) | rfl | (simp; done) | decide))
  simp only [Act.put, List.getElem_toArray, List.getElem_cons_succ, List.getElem_cons_zero, List.setIfInBounds_toArray, List.set_cons_zero, List.set_cons_succ]
  refine wpAnyH_take (i := 18) (v := ?_) rfl (by kernel_rfl) (by kernel_rfl) (by kernel_rfl) (fun _ _ _ h => h) (Or.inl ⟨by rfl, ?_⟩) hS1 ?_
  rotate_left
  · intro wq hSw; go_simp; (try with_reducible rfl)
  simp only [Act.put, List.getElem_toArray, List.getElem_cons_succ, List.getElem_cons_zero, List.setIfInBounds_toArray, List.set_cons_zero, List.set_cons_succ]
  refine wpAnyH_take (i := 19) (v := ?_) rfl (by kernel_rfl) (by kernel_rfl) (by kernel_rfl) (fun _ _ _ h => h) (Or.inl ⟨by rfl, ?_⟩) hS1 ?_
  rotate_left
  · intro wq hSw; go_simp; (try with_reducible rfl)
  simp only [Act.put, List.getElem_toArray, List.getElem_cons_succ, List.getElem_cons_zero, List.setIfInBounds_toArray, List.set_cons_zero, List.set_cons_succ]
  refine wpAnyH_take (i := 20) (v := .bool true) rfl (by kernel_rfl) (by kernel_rfl) (by kernel_rfl) (fun _ _ _ h => h) (Or.inl ⟨by rfl, ?_⟩) hS1 ?_
  · intro wq hSw; go_simp; (try (first | (with_reducible rfl) | rfl | (simp; done) | decide))
  simp only [Act.put, List.getElem_toArray, List.getElem_cons_succ, List.getElem_cons_zero, List.setIfInBounds_toArray, List.set_cons_zero, List.set_cons_succ]
  refine wpAnyH_take (i := 21) (v := ?_) rfl (by kernel_rfl) (by kernel_rfl) (by kernel_rfl) (fun _ _ _ h => h) (Or.inl ⟨by rfl, ?_⟩) hS1 ?_
  rotate_left
  · intro wq hSw; go_simp; (try with_reducible rfl)
  simp only [Act.put, List.getElem_toArray, List.getElem_cons_succ, List.getElem_cons_zero, List.setIfInBounds_toArray, List.set_cons_zero, List.set_cons_succ]
  refine wpAnyH_take (i := 22) (v := ?_) rfl (by kernel_rfl) (by kernel_rfl) (by kernel_rfl) (fun _ _ _ h => h) (Or.inl ⟨by rfl, ?_⟩) hS1 ?_
  rotate_left
  · intro wq hSw; go_simp; (try with_reducible rfl)
  simp only [Act.put, List.getElem_toArray, List.getElem_cons_succ, List.getElem_cons_zero, List.setIfInBounds_toArray, List.set_cons_zero, List.set_cons_succ]
  refine wpAnyH_take (i := 23) (v := .bool true) rfl (by kernel_rfl) (by kernel_rfl) (by kernel_rfl) (fun _ _ _ h => h) (Or.inl ⟨by rfl, ?_⟩) hS1 ?_
  · intro wq hSw; go_simp; (try (first | (with_reducible rfl) | rfl | (simp; done) | decide))
  simp only [Act.put, List.getElem_toArray, List.getElem_cons_succ, List.getElem_cons_zero, List.setIfInBounds_toArray, List.set_cons_zero, List.set_cons_succ]
  refine wpAnyH_take (i := 24) (v := .bool true) rfl (by kernel_rfl) (by kernel_rfl) (by kernel_rfl) (fun _ _ _ h => h) (Or.inl ⟨by rfl, ?_⟩) hS1 ?_
  · intro wq hSw; go_simp; (try (first | (with_reducible rfl) | rfl | (simp; done) | decide))
  simp only [Act.put, List.getElem_toArray, List.getElem_cons_succ, List.getElem_cons_zero, List.setIfInBounds_toArray, List.set_cons_zero, List.set_cons_succ]
  refine wpAnyH_take (i := 25) (v := ?_) rfl (by kernel_rfl) (by kernel_rfl) (by kernel_rfl) (fun _ _ _ h => h) (Or.inl ⟨by rfl, ?_⟩) hS1 ?_
  rotate_left
  · intro wq hSw; go_simp; (try with_reducible rfl)
  simp only [Act.put, List.getElem_toArray, List.getElem_cons_succ, List.getElem_cons_zero, List.setIfInBounds_toArray, List.set_cons_zero, List.set_cons_succ]
  refine wpAnyH_take (i := 26) (v := .agg #[.int .u8 5, .int .u8 9, .int .u64 7, .int .u8 0, .int .u64 0, .int .u64 0, .int .i64 0, .int .u8 0, .int .u64 0, .int .u64 0, .string ⟨#[]⟩, .string ⟨#[]⟩, .int .u64 0, .int .u64 0, .int .i64 0]) rfl (by kernel_rfl) (by kernel_rfl) (by kernel_rfl) (fun _ _ _ h => h) (yieldsB (by rfl) _ _ (by rfl) (by rfl) (fun wx h => n1.up h) structCall 15 infoCall (by rfl)) hS1 ?_
  simp only [Act.put, List.getElem_toArray, List.getElem_cons_succ, List.getElem_cons_zero, List.setIfInBounds_toArray, List.set_cons_zero, List.set_cons_succ]
  refine wpAnyH_take (i := 27) (v := .agg #[.int .u8 5, .int .u8 9, .int .u64 7, .int .u8 0, .int .u64 0, .int .u64 0, .int .i64 0, .int .u8 0, .int .u64 0, .int .u64 0, .string ⟨#[]⟩, .string ⟨#[]⟩, .int .u64 0, .int .u64 0, .int .i64 0]) rfl (by kernel_rfl) (by kernel_rfl) (by kernel_rfl) (fun _ _ _ h => h) (Or.inl ⟨by rfl, ?_⟩) hS1 ?_
  · intro wq hSw; go_simp; (try with_reducible rfl); (try rfl)
  simp only [Act.put, List.getElem_toArray, List.getElem_cons_succ, List.getElem_cons_zero, List.setIfInBounds_toArray, List.set_cons_zero, List.set_cons_succ]
  refine wpAnyH_take (i := 28) (v := .bool true) rfl (by kernel_rfl) (by kernel_rfl) (by kernel_rfl) (fun _ _ _ h => h) (Or.inl ⟨by rfl, ?_⟩) hS1 ?_
  · intro wq hSw; go_simp; (try (first | (with_reducible rfl) | rfl | (simp; done) | decide))
  simp only [Act.put, List.getElem_toArray, List.getElem_cons_succ, List.getElem_cons_zero, List.setIfInBounds_toArray, List.set_cons_zero, List.set_cons_succ]
  refine wpAnyH_take (i := 29) (v := .bool true) rfl (by kernel_rfl) (by kernel_rfl) (by kernel_rfl) (fun _ _ _ h => h) (Or.inl ⟨by rfl, ?_⟩) hS1 ?_
  · intro wq hSw; go_simp; (try (first | (with_reducible rfl) | rfl | (simp; done) | decide))
  simp only [Act.put, List.getElem_toArray, List.getElem_cons_succ, List.getElem_cons_zero, List.setIfInBounds_toArray, List.set_cons_zero, List.set_cons_succ]
  refine wpAnyH_take (i := 30) (v := ?_) rfl (by kernel_rfl) (by kernel_rfl) (by kernel_rfl) (fun _ _ _ h => h) (Or.inl ⟨by rfl, ?_⟩) hS1 ?_
  rotate_left
  · intro wq hSw; go_simp; (try with_reducible rfl)
  simp only [Act.put, List.getElem_toArray, List.getElem_cons_succ, List.getElem_cons_zero, List.setIfInBounds_toArray, List.set_cons_zero, List.set_cons_succ]
  refine wpAnyH_take (i := 31) (v := ?_) rfl (by kernel_rfl) (by kernel_rfl) (by kernel_rfl) (fun _ _ _ h => h) (Or.inl ⟨by rfl, ?_⟩) hS1 ?_
  rotate_left
  · intro wq hSw; go_simp; (try with_reducible rfl)
  simp only [Act.put, List.getElem_toArray, List.getElem_cons_succ, List.getElem_cons_zero, List.setIfInBounds_toArray, List.set_cons_zero, List.set_cons_succ]
  refine wpAnyH_take (i := 32) (v := .agg #[.int .u8 4, .int .u64 0, .int .u64 16909060]) rfl (by kernel_rfl) (by kernel_rfl) (by kernel_rfl) (fun _ _ _ h => h) (Or.inl ⟨by rfl, ?_⟩) hS1 ?_
  · intro wq hSw; obtain ⟨⟨q0, q1, q2, -⟩, -⟩ := (n2.up hSw).cells16; go_simp; (try with_reducible rfl); (try rfl)
  simp only [Act.put, List.getElem_toArray, List.getElem_cons_succ, List.getElem_cons_zero, List.setIfInBounds_toArray, List.set_cons_zero, List.set_cons_succ]
  refine wpAnyH_one (i := 33) (by kernel_rfl) rfl (fun K hK => ?_)
  simp only [List.getElem_toArray, List.getElem_cons_succ, List.getElem_cons_zero]
  rw [if_pos (by rfl)]
  go_simp
  (with_reducible refine (some26_any _).mono ?_)
  rintro e u2 ⟨rfl, hb11⟩
  have hS2 := Chain.up hS1 hb11
  refine hK.out _ _ hS2 ?_
  clear hK K
  refine wpAnyH_take (i := 34) (v := .bool true) rfl (by kernel_rfl) (by kernel_rfl) (by kernel_rfl) (fun _ _ _ h => h) (Or.inl ⟨by rfl, ?_⟩) hS2 ?_
  · intro wq hSw; go_simp; (try (first | (with_reducible rfl) | rfl | (simp; done) | decide))
  simp only [Act.put, List.getElem_toArray, List.getElem_cons_succ, List.getElem_cons_zero, List.setIfInBounds_toArray, List.set_cons_zero, List.set_cons_succ]
  refine wpAnyH_take (i := 35) (v := .bool true) rfl (by kernel_rfl) (by kernel_rfl) (by kernel_rfl) (fun _ _ _ h => h) (Or.inl ⟨by rfl, ?_⟩) hS2 ?_
  · intro wq hSw; go_simp; (try (first | (with_reducible rfl) | rfl | (simp; done) | decide))
  simp only [Act.put, List.getElem_toArray, List.getElem_cons_succ, List.getElem_cons_zero, List.setIfInBounds_toArray, List.set_cons_zero, List.set_cons_succ]
  refine wpAnyH_take (i := 36) (v := ?_) rfl (by kernel_rfl) (by kernel_rfl) (by kernel_rfl) (fun _ _ _ h => h) (Or.inl ⟨by rfl, ?_⟩) hS2 ?_
  rotate_left
  · intro wq hSw; go_simp; (try with_reducible rfl)
  simp only [Act.put, List.getElem_toArray, List.getElem_cons_succ, List.getElem_cons_zero, List.setIfInBounds_toArray, List.set_cons_zero, List.set_cons_succ]
  refine wpAnyH_take (i := 37) (v := ?_) rfl (by kernel_rfl) (by kernel_rfl) (by kernel_rfl) (fun _ _ _ h => h) (Or.inl ⟨by rfl, ?_⟩) hS2 ?_
  rotate_left
  · intro wq hSw; go_simp; (try with_reducible rfl)
  simp only [Act.put, List.getElem_toArray, List.getElem_cons_succ, List.getElem_cons_zero, List.setIfInBounds_toArray, List.set_cons_zero, List.set_cons_succ]
  refine wpAnyH_take (i := 38) (v := ?_) rfl (by kernel_rfl) (by kernel_rfl) (by kernel_rfl) (fun _ _ _ h => h) (Or.inl ⟨by rfl, ?_⟩) hS2 ?_
  rotate_left
  · intro wq hSw; go_simp; (try with_reducible rfl)
  simp only [Act.put, List.getElem_toArray, List.getElem_cons_succ, List.getElem_cons_zero, List.setIfInBounds_toArray, List.set_cons_zero, List.set_cons_succ]
  refine wpAnyH_take (i := 39) (v := .int .u64 15) rfl (by kernel_rfl) (by kernel_rfl) (by kernel_rfl) (fun _ _ _ h => h) (Or.inl ⟨by rfl, ?_⟩) hS2 ?_
  · intro wq hSw; obtain ⟨⟨-, -, -, -, q4, -⟩, -⟩ := (n2.up hSw).cells16; go_simp; (try with_reducible rfl); (try rfl)
  simp only [Act.put, List.getElem_toArray, List.getElem_cons_succ, List.getElem_cons_zero, List.setIfInBounds_toArray, List.set_cons_zero, List.set_cons_succ]
  refine wpAnyH_take (i := 40) (v := .bool true) rfl (by kernel_rfl) (by kernel_rfl) (by kernel_rfl) (fun _ _ _ h => h) (Or.inl ⟨by rfl, ?_⟩) hS2 ?_
  · intro wq hSw; go_simp; (try (first | (with_reducible rfl) | rfl | (simp; done) | decide))
  simp only [Act.put, List.getElem_toArray, List.getElem_cons_succ, List.getElem_cons_zero, List.setIfInBounds_toArray, List.set_cons_zero, List.set_cons_succ]
  refine wpAnyH_take (i := 41) (v := .bool true) rfl (by kernel_rfl) (by kernel_rfl) (by kernel_rfl) (fun _ _ _ h => h) (Or.inl ⟨by rfl, ?_⟩) hS2 ?_
  · intro wq hSw; go_simp; (try (first | (with_reducible rfl) | rfl | (simp; done) | decide))
  simp only [Act.put, List.getElem_toArray, List.getElem_cons_succ, List.getElem_cons_zero, List.setIfInBounds_toArray, List.set_cons_zero, List.set_cons_succ]
  refine wpAnyH_take (i := 42) (v := ?_) rfl (by kernel_rfl) (by kernel_rfl) (by kernel_rfl) (fun _ _ _ h => h) (Or.inl ⟨by rfl, ?_⟩) hS2 ?_
  rotate_left
  · intro wq hSw; go_simp; (try with_reducible rfl)
  simp only [Act.put, List.getElem_toArray, List.getElem_cons_succ, List.getElem_cons_zero, List.setIfInBounds_toArray, List.set_cons_zero, List.set_cons_succ]
  refine wpAnyH_done (by kernel_rfl) ?_ _
  go_wp2_with fail
  go_ret
  exact ⟨rfl, Chain.up hc9 hS2⟩
end Go.Proofs.YtcobfoiajdbahaaDoor

namespace Go.Proofs.YtcobfoiajdbahaaDoor
open Go.RowKit
set_option linter.unusedVariables false
set_option linter.unusedSimpArgs false
abbrev noAnV : Value := .agg #[.int .u8 0, .int .u64 0, .int .u64 0, .string ⟨#[]⟩, .int .u64 0, .int .u8 0, .int .u64 0, .int .u64 0, .int .i64 0, .bool false, .bool false, .bool false, .int .u64 0, .slice none 0 0, .slice none 0 0, .slice none 0 0]
def P.greatC (x : P.Ca) : Bool := decide (2000 < x.owner.length) || decide (2000 < x.to.length)
theorem P.greatC_no {x : P.Ca} (h : P.greatC x = false) : x.owner.length ≤ 2000 ∧ x.to.length ≤ 2000 := by
  unfold P.greatC at h
  simp only [Bool.or_eq_false_iff, decide_eq_false_iff_not] at h
  omega
set_option maxRecDepth 100000 in
set_option maxHeartbeats 8000000 in
theorem greatC_any (x : P.Ca) (ho : x.owner.length ≤ 9223372036854775807) (hto : x.to.length ≤ 9223372036854775807) (w : World) :
    Calls Tryd.prog 11 #[caV x, noAnV] w fun e w' => e = .returned (.bool (P.greatC x)) ∧ Below w.heap.size w w' := by
  obtain ⟨h1, h2, hA⟩ := two_bx w #[.int .u8 (x.op : Nat), .int .u8 (x.client : Nat), V64 x.number, .int .u8 (x.p.a.fam : Nat), V64 x.p.a.hi, V64 x.p.a.lo, .int .i64 x.p.bits, .int .u8 (x.a.fam : Nat), V64 x.a.hi, V64 x.a.lo, S x.owner, S x.to, V64 x.d, V64 x.fr, .int .i64 x.n] #[.int .u8 0, .int .u64 0, .int .u64 0, .string ⟨#[]⟩, .int .u64 0, .int .u8 0, .int .u64 0, .int .u64 0, .int .i64 0, .bool false, .bool false, .bool false, .int .u64 0, .slice none 0 0, .slice none 0 0, .slice none 0 0] 28 36
  have hre : P.greatC x = (decide (2000 < x.owner.length) || decide (2000 < x.to.length)) := rfl
  by_cases ha : 2000 < x.owner.length
  · have hi : (2000 : Int) < (x.owner.length : Int) := by omega
    have hg : P.greatC x = true := by rw [hre, decide_eq_true ha]; rfl
    have Hg := Lib.hid hg
    clear hg hre ha
    go_enter Tryd.func11, Tryd.ntmps11
    go_upto_region 1 with fail
    generalize hW : (w.alloc (.cells #[.int .u8 (x.op : Nat), .int .u8 (x.client : Nat), V64 x.number, .int .u8 (x.p.a.fam : Nat), V64 x.p.a.hi, V64 x.p.a.lo, .int .i64 x.p.bits, .int .u8 (x.a.fam : Nat), V64 x.a.hi, V64 x.a.lo, S x.owner, S x.to, V64 x.d, V64 x.fr, .int .i64 x.n] 28)).alloc (.cells #[.int .u8 0, .int .u64 0, .int .u64 0, .string ⟨#[]⟩, .int .u64 0, .int .u8 0, .int .u64 0, .int .u64 0, .int .i64 0, .bool false, .bool false, .bool false, .int .u64 0, .slice none 0 0, .slice none 0 0, .slice none 0 0] 36) = w2 at *
    clear hW
    obtain ⟨⟨c0, c1, c2, c3, c4, c5, c6, c7, c8, c9, c10, c11, c12, c13, c14⟩, -⟩ := h1.cells15
    obtain ⟨⟨a0, a1, a2, a3, a4, a5, a6, a7, a8, a9, a10, a11, a12, a13, a14, a15⟩, -⟩ := h2.cells16
    go_wp2_with fail
    all_goals (go_ret; exact ⟨by rw [Hg.out]; rfl, hA⟩)
  · have hi : ¬ (2000 : Int) < (x.owner.length : Int) := by omega
    by_cases hb : 2000 < x.to.length
    · have hj : (2000 : Int) < (x.to.length : Int) := by omega
      have hg : P.greatC x = true := by rw [hre, decide_eq_false ha, decide_eq_true hb]; rfl
      have Hg := Lib.hid hg
      clear hg hre ha hb
      go_enter Tryd.func11, Tryd.ntmps11
      go_upto_region 1 with fail
      generalize hW : (w.alloc (.cells #[.int .u8 (x.op : Nat), .int .u8 (x.client : Nat), V64 x.number, .int .u8 (x.p.a.fam : Nat), V64 x.p.a.hi, V64 x.p.a.lo, .int .i64 x.p.bits, .int .u8 (x.a.fam : Nat), V64 x.a.hi, V64 x.a.lo, S x.owner, S x.to, V64 x.d, V64 x.fr, .int .i64 x.n] 28)).alloc (.cells #[.int .u8 0, .int .u64 0, .int .u64 0, .string ⟨#[]⟩, .int .u64 0, .int .u8 0, .int .u64 0, .int .u64 0, .int .i64 0, .bool false, .bool false, .bool false, .int .u64 0, .slice none 0 0, .slice none 0 0, .slice none 0 0] 36) = w2 at *
      clear hW
      obtain ⟨⟨c0, c1, c2, c3, c4, c5, c6, c7, c8, c9, c10, c11, c12, c13, c14⟩, -⟩ := h1.cells15
      obtain ⟨⟨a0, a1, a2, a3, a4, a5, a6, a7, a8, a9, a10, a11, a12, a13, a14, a15⟩, -⟩ := h2.cells16
      go_wp2_with fail
      all_goals (go_ret; exact ⟨by rw [Hg.out]; rfl, hA⟩)
    · have hj : ¬ (2000 : Int) < (x.to.length : Int) := by omega
      have hg : P.greatC x = false := by rw [hre, decide_eq_false ha, decide_eq_false hb]; rfl
      have Hg := Lib.hid hg
      clear hg hre ha hb
      go_enter Tryd.func11, Tryd.ntmps11
      go_upto_region 1 with fail
      generalize hW : (w.alloc (.cells #[.int .u8 (x.op : Nat), .int .u8 (x.client : Nat), V64 x.number, .int .u8 (x.p.a.fam : Nat), V64 x.p.a.hi, V64 x.p.a.lo, .int .i64 x.p.bits, .int .u8 (x.a.fam : Nat), V64 x.a.hi, V64 x.a.lo, S x.owner, S x.to, V64 x.d, V64 x.fr, .int .i64 x.n] 28)).alloc (.cells #[.int .u8 0, .int .u64 0, .int .u64 0, .string ⟨#[]⟩, .int .u64 0, .int .u8 0, .int .u64 0, .int .u64 0, .int .i64 0, .bool false, .bool false, .bool false, .int .u64 0, .slice none 0 0, .slice none 0 0, .slice none 0 0] 36) = w2 at *
      clear hW
      obtain ⟨⟨c0, c1, c2, c3, c4, c5, c6, c7, c8, c9, c10, c11, c12, c13, c14⟩, -⟩ := h1.cells15
      obtain ⟨⟨a0, a1, a2, a3, a4, a5, a6, a7, a8, a9, a10, a11, a12, a13, a14, a15⟩, -⟩ := h2.cells16
      go_wp2_with fail
      go_loopw [5] (fun i wr => i = .int .i64 0 ∧ Bx wr (w.heap.size + 1) 36 #[.int .u8 0, .int .u64 0, .int .u64 0, .string ⟨#[]⟩, .int .u64 0, .int .u8 0, .int .u64 0, .int .u64 0, .int .i64 0, .bool false, .bool false, .bool false, .int .u64 0, .slice none 0 0, .slice none 0 0, .slice none 0 0] ∧ Below w.heap.size w wr) (fun _ _ => 0)
      case atStart => exact ⟨rfl, h2, hA⟩
      case round =>
        clear a0 a1 a2 a3 a4 a5 a6 a7 a8 a9 a10 a11 a12 a13 a14 a15 h2 hA
        obtain ⟨rfl, h2, hA⟩ := hrel
        obtain ⟨⟨a0, a1, a2, a3, a4, a5, a6, a7, a8, a9, a10, a11, a12, a13, a14, a15⟩, -⟩ := h2.cells16
        go_wp2_with fail
        go_loopw [6] (fun i wr => i = .int .i64 0 ∧ Bx wr (w.heap.size + 1) 36 #[.int .u8 0, .int .u64 0, .int .u64 0, .string ⟨#[]⟩, .int .u64 0, .int .u8 0, .int .u64 0, .int .u64 0, .int .i64 0, .bool false, .bool false, .bool false, .int .u64 0, .slice none 0 0, .slice none 0 0, .slice none 0 0] ∧ Below w.heap.size w wr) (fun _ _ => 0)
        case atStart => exact ⟨rfl, h2, hA⟩
        case round =>
          clear a0 a1 a2 a3 a4 a5 a6 a7 a8 a9 a10 a11 a12 a13 a14 a15 h2 hA
          obtain ⟨rfl, h2, hA⟩ := hrel
          obtain ⟨⟨a0, a1, a2, a3, a4, a5, a6, a7, a8, a9, a10, a11, a12, a13, a14, a15⟩, -⟩ := h2.cells16
          go_wp2_with fail
          go_ret
          exact ⟨by rw [Hg.out]; rfl, hA⟩
theorem str_takeN (s : List UInt8) (m : Nat) : (ByteArray.mk s.toArray).extract 0 m = ⟨(s.take m).toArray⟩ := by
  rw [ByteArray.extract_mk, List.drop_zero, Nat.sub_zero]
theorem P.eqI_self (l : List Int) (s : List (List UInt8)) : P.eqI l l s s = true := by unfold P.eqI; simp
theorem P.read_cut {d : P.Ca} (h : P.rightC d = true) (ht : P.tyC d) (k : Nat) (hk : k < (P.bytesC d).length) : P.readOk ((P.bytesC d).take k) = false := by
  cases hq : P.readOk ((P.bytesC d).take k) with
  | false => rfl
  | true =>
    obtain ⟨r1, r2⟩ := P.read_is hq
    have e : P.bytesC d = P.bytesC (P.readC ((P.bytesC d).take k)) ++ (P.bytesC d).drop k := by rw [r2, List.take_append_drop]
    have h1 := (P.read_app r1 (P.readC_ty _).1 ((P.bytesC d).drop k)).1
    rw [← e, (P.read_right h ht).1] at h1
    have h2 : (P.bytesC d).drop k = [] := by simpa using h1.symm
    have h3 := congrArg List.length h2
    rw [List.length_drop] at h3
    simp at h3
    omega
end Go.Proofs.YtcobfoiajdbahaaDoor

namespace Go.Proofs.YtcobfoiajdbahaaDoor
open Go.RowKit
set_option linter.unusedVariables false
set_option linter.unusedSimpArgs false
set_option maxRecDepth 100000 in
set_option maxHeartbeats 8000000 in
theorem law_writes (x : P.Ca) (w : World) (ht : P.tyC x) (ho : x.owner.length ≤ 9223372036854775807) (hto : x.to.length ≤ 9223372036854775807) (hu : UsesOk w) :
    Calls Tryd.prog 3 #[caV x] w fun e w' => e = .returned (.bool true) ∧ Below w.heap.size w w' := by
  have hbx := Bx.fresh w 28 #[.int .u8 (x.op : Nat), .int .u8 (x.client : Nat), V64 x.number, .int .u8 (x.p.a.fam : Nat), V64 x.p.a.hi, V64 x.p.a.lo, .int .i64 x.p.bits, .int .u8 (x.a.fam : Nat), V64 x.a.hi, V64 x.a.lo, S x.owner, S x.to, V64 x.d, V64 x.fr, .int .i64 x.n]
  have hA := (Below.refl w.heap.size w).alloc (Nat.le_refl _) (.cells #[.int .u8 (x.op : Nat), .int .u8 (x.client : Nat), V64 x.number, .int .u8 (x.p.a.fam : Nat), V64 x.p.a.hi, V64 x.p.a.lo, .int .i64 x.p.bits, .int .u8 (x.a.fam : Nat), V64 x.a.hi, V64 x.a.lo, S x.owner, S x.to, V64 x.d, V64 x.fr, .int .i64 x.n] 28)
  have HG := Lib.hid (fun wx => greatC_any x (by omega) (by omega) wx)
  cases hgr : P.greatC x with
  | true =>
    rw [hgr] at HG
    clear hgr
    go_enter Tryd.func3, Tryd.ntmps3
    go_wp2_with (first
      | (refine wpList_ldB (by rfl) _ _ (by rfl) hbx (by rfl) structCall 15 infoCall (by rfl) ?_)
      | (go_at_call 11; (with_reducible refine (HG.out _).mono ?_); rintro e w1 ⟨rfl, hb1⟩; have hc1 := Chain.up hA hb1; have hbx1 := hbx.up hb1)
      | (go_at_call 12; (with_reducible refine (awake_any _ (hu.up hc1)).mono ?_); rintro e w2 ⟨rfl, hb2⟩; have hc2 := Chain.up hc1 hb2))
    go_ret
    exact ⟨rfl, hc2⟩
  | false =>
    have hsh := P.greatC_no hgr
    have HW := Lib.hid (fun wx (hu : UsesOk wx) => write_any x ht (by omega) (by omega) wx hu)
    have HR := Lib.hid (fun wx => refRight25_any x ht (by omega) (by omega) wx)
    have HV := Lib.hid (fun wx => given26_any x wx)
    rw [hgr] at HG
    clear hgr
    cases hr : P.rightC x with
    | false =>
      rw [hr] at HW HR
      rw [if_neg (by simp)] at HW
      clear hr
      go_enter Tryd.func3, Tryd.ntmps3
      go_wp2_with (first
        | (refine wpList_ldB (by rfl) _ _ (by rfl) hbx (by rfl) structCall 15 infoCall (by rfl) ?_)
        | (go_at_call 11; (with_reducible refine (HG.out _).mono ?_); rintro e w1 ⟨rfl, hb1⟩; have hc1 := Chain.up hA hb1; have hbx1 := hbx.up hb1)
        | (refine wpList_ldB (by rfl) _ _ (by rfl) hbx1 (by rfl) structCall 15 infoCall (by rfl) ?_)
        | (go_at_call 13; (with_reducible refine (HW.out _ (hu.up hc1)).mono ?_); rintro e w2 ⟨rfl, hb2⟩; have hc2 := Chain.up hc1 hb2; have hbx2 := hbx1.up hb2)
        | (refine wpList_ldB (by rfl) _ _ (by rfl) hbx2 (by rfl) structCall 15 infoCall (by rfl) ?_)
        | (go_at_call 15; (with_reducible refine (HV.out _).mono ?_); rintro e w3 ⟨rfl, hb3⟩; have hc3 := Chain.up hc2 hb3; have hbx3 := hbx2.up hb3)
        | (go_at_call 14; (with_reducible refine (HR.out _).mono ?_); rintro e w4 ⟨rfl, hb4⟩; have hc4 := Chain.up hc3 hb4; have hbx4 := hbx3.up hb4)
        | (go_at_call 12; (with_reducible refine (awake_any _ (hu.up hc4)).mono ?_); rintro e w5 ⟨rfl, hb5⟩; have hc5 := Chain.up hc4 hb5))
      go_ret
      exact ⟨rfl, hc5⟩
    | true =>
      have HT := Lib.hid (fun wx => refWrite_any x ht (by omega) (by omega) (by have := P.right_all hr; exact this.1) wx)
      rw [hr] at HW HR
      rw [if_pos rfl] at HW
      clear hr
      generalize P.bytesC x = T at *
      go_enter Tryd.func3, Tryd.ntmps3
      go_wp2_with (first
        | (refine wpList_ldB (by rfl) _ _ (by rfl) hbx (by rfl) structCall 15 infoCall (by rfl) ?_)
        | (go_at_call 11; (with_reducible refine (HG.out _).mono ?_); rintro e w1 ⟨rfl, hb1⟩; have hc1 := Chain.up hA hb1; have hbx1 := hbx.up hb1)
        | (refine wpList_ldB (by rfl) _ _ (by rfl) hbx1 (by rfl) structCall 15 infoCall (by rfl) ?_)
        | (go_at_call 13; (with_reducible refine (HW.out _ (hu.up hc1)).mono ?_); rintro e w2 ⟨rfl, hb2⟩; have hc2 := Chain.up hc1 hb2; have hbx2 := hbx1.up hb2)
        | (refine wpList_ldB (by rfl) _ _ (by rfl) hbx2 (by rfl) structCall 15 infoCall (by rfl) ?_)
        | (go_at_call 15; (with_reducible refine (HV.out w2).mono ?_); rintro e w3 ⟨rfl, hb3⟩; have hc3 := Chain.up hc2 hb3; have hbx3 := hbx2.up hb3)
        | (go_at_call 14; (with_reducible refine (HR.out _).mono ?_); rintro e w4 ⟨rfl, hb4⟩; have hc4 := Chain.up hc3 hb4; have hbx4 := hbx3.up hb4)
        | (refine wpList_ldB (by rfl) _ _ (by rfl) hbx4 (by rfl) structCall 15 infoCall (by rfl) ?_)
        | (go_at_call 15; (with_reducible refine (HV.out w4).mono ?_); rintro e w5 ⟨rfl, hb5⟩; have hc5 := Chain.up hc4 hb5; have hbx5 := hbx4.up hb5)
        | (go_at_call 16; (with_reducible refine (HT.out _).mono ?_); rintro e w6 ⟨rfl, hb6⟩; have hc6 := Chain.up hc5 hb6)
        | (go_at_call 12; (with_reducible refine (awake_any _ (hu.up hc6)).mono ?_); rintro e w7 ⟨rfl, hb7⟩; have hc7 := Chain.up hc6 hb7))
      go_ret
      exact ⟨rfl, hc7⟩
end Go.Proofs.YtcobfoiajdbahaaDoor
