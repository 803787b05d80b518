/- Boxes that are known whole: a store of many cells is one step, and its world a variable; so is the load of a whole box, and a result that lies in a box. -/
import Derived.Test.YtcobfoiajdbahaaDoorWBaseQ
import Derived.Test.YtcobfoiajdbahaaDoorWQAd
import Derived.Deep.MidRow
namespace Go.Proofs.YtcobfoiajdbahaaDoor
open Go.RowKit
set_option linter.unusedVariables false
set_option linter.unusedSimpArgs false
def putL : Nat → List Value → List Value → List Value
  | _, [], _ => []
  | 0, c :: l, [] => c :: l
  | 0, _ :: l, v :: vs => v :: putL 0 l vs
  | o + 1, c :: l, vs => c :: putL o l vs
theorem putL_nil : ∀ (o : Nat) (l : List Value), putL o l [] = l
  | 0, [] => rfl
  | 0, _ :: _ => rfl
  | _ + 1, [] => rfl
  | o + 1, c :: l => by
    show c :: putL o l [] = _
    rw [putL_nil o l]
theorem putL_set : ∀ (o : Nat) (l : List Value) (v : Value) (vs : List Value), putL (o + 1) (l.set o v) vs = putL o l (v :: vs)
  | 0, [], v, vs => rfl
  | 0, c :: l, v, vs => rfl
  | o + 1, [], v, vs => rfl
  | o + 1, c :: l, v, vs => by
    show c :: putL (o + 1) (l.set o v) vs = c :: putL o l (v :: vs)
    rw [putL_set o l v vs]
theorem Bx.setCells {g : Nat} {t : TypeId} : ∀ (vs : List Value) (o : Nat) (w : World) (cs : Array Value), Bx w g t cs → Bx (w.setCells g o vs) g t (putL o cs.toList vs).toArray
  | [], o, w, cs, h => by rw [putL_nil]; exact h
  | v :: vs, o, w, cs, h => by
    have := Bx.setCells vs (o + 1) _ _ (h.set o v)
    rw [show (cs.setIfInBounds o v).toList = cs.toList.set o v by simp, putL_set] at this
    exact this
theorem But.setCells {g : Nat} {a : World} : ∀ (vs : List Value) (o : Nat) (w : World), But g a w → But g a (w.setCells g o vs)
  | [], _, _, h => h
  | v :: vs, o, w, h => But.setCells vs (o + 1) _ (h.set o v)
theorem Bx.there {w : World} {g : Nat} {t : TypeId} {cs : Array Value} (h : Bx w g t cs) {o n : Nat} (hn : o + n ≤ cs.size) : w.there g o n := fun j hj =>
  ⟨by rw [h.cell (o + j), Array.getElem?_eq_getElem (by omega)]; rfl, h.frozen _⟩
theorem Bx.range {w : World} {g : Nat} {t : TypeId} {cs : Array Value} (h : Bx w g t cs) : w.rangeAt g 0 cs.toList := fun j v hv => by
  rw [Nat.zero_add, h.cell j]
  simpa using hv
/-- A new box's writes go unseen. -/
theorem But.after {g z : Nat} {a w w' : World} (h : But g a w) (hb : But z w w') (hz : a.heap.size ≤ z) : But g a w' :=
  ⟨hb.1.trans h.1, hb.2.1.trans h.2.1, hb.2.2.1.trans h.2.2.1, Nat.le_trans h.2.2.2.1 hb.2.2.2.1, fun i hi hg => (hb.2.2.2.2 i (Nat.lt_of_lt_of_le hi h.2.2.2.1) (by omega)).trans (h.2.2.2.2 i hi hg)⟩
/-- A store into a box: the world behind it is a variable. -/
theorem wpList_stB {P : Program} {ops : Array Oper} {rest : List Oper} {op : Oper} {a : Act} {w : World} {Q : Exit → Act → World → Prop} (hgd : op.guard = none) (ty : TypeId) (x y : Operand) (ho : op.op = .store ty x y)
    {g : Nat} {t : TypeId} {cs : Array Value} (hbx : Bx w g t cs) (o : Nat) (vs : Array Value) (hx : a.eval x = .pointer (some ⟨g, o, none⟩)) (hy : a.eval y = .agg vs)
    (n N : Nat) (hvs : vs.size = n) (hN : cs.size = N) (hn : o + n ≤ N) (hi : (P.info? ty).map (·.size) = some n) (h1 : vs.toList.all (·.oneCell') = true)
    {cs' : Array Value} (hcs : (putL o cs.toList vs.toList).toArray = cs')
    (h : ∀ w', Bx w' g t cs' → But g w w' → wpList P ops Q rest (a.put op.dst undef) w') : wpList P ops Q (op :: rest) a w := by
  subst hvs hN hcs
  exact wpList_store_mid hgd ty x y ho g o vs hx hy (hbx.there hn) hi (by rw [← Array.all_toList]; exact h1) (h _ (Bx.setCells _ _ _ _ hbx) (But.setCells _ _ _ (But.refl g w)))
/-- The same for a value of one cell. -/
theorem run_storeVar_one {P : Program} (w : World) (b o : Nat) (ty : TypeId) (v : Value) (hv : v.cells = #[v]) (h1 : v.oneCell' = true) (ht : w.there b o 1) (hi : (P.info? ty).map (·.size) = some 1) :
    (storeVar ty ⟨b, o, none⟩ v).run P w = .ok () (w.setCells b o [v]) := by
  have := run_storeCells_cells (P := P) b o [v] 0 w (fun j hj => by simpa using (ht j (by simpa using hj)).1) (fun j hj => by simpa using (ht j (by simpa using hj)).2) (fun u hu => by obtain rfl := List.mem_singleton.1 hu; exact h1)
  cases hq : P.info? ty with
  | none => simp [hq] at hi
  | some i =>
    have hs : i.size = 1 := by simpa [hq] using hi
    simp only [Nat.add_zero] at this
    simp [storeVar, sizeOf, typeInfo, hq, hv, hs, this]
theorem wpList_stV {P : Program} {ops : Array Oper} {rest : List Oper} {op : Oper} {a : Act} {w : World} {Q : Exit → Act → World → Prop} (hgd : op.guard = none) (ty : TypeId) (x y : Operand) (ho : op.op = .store ty x y)
    {g : Nat} {t : TypeId} {cs : Array Value} (hbx : Bx w g t cs) (o : Nat) (v : Value) (hx : a.eval x = .pointer (some ⟨g, o, none⟩)) (hy : a.eval y = v) (hv : v.cells = #[v]) (h1 : v.oneCell' = true)
    (N : Nat) (hN : cs.size = N) (hn : o + 1 ≤ N) (hi : (P.info? ty).map (·.size) = some 1)
    {cs' : Array Value} (hcs : (putL o cs.toList [v]).toArray = cs')
    (h : ∀ w', Bx w' g t cs' → But g w w' → wpList P ops Q rest (a.put op.dst undef) w') : wpList P ops Q (op :: rest) a w := by
  subst hN hcs hy
  refine wpList_plain hgd fun _ hK => ?_
  unfold Oper.wp execOp
  simp only [ho, hx, Instr.storeAt, Instr.sureAddr, Sem.run_bind, Sem.run_pure, Result.andThen_ok, run_storeVar_one w g o ty _ hv h1 (hbx.there hn) hi]
  exact hK _ _ (h _ (Bx.setCells _ _ _ _ hbx) (But.setCells _ _ _ (But.refl g w)))
/-- The load of a whole box. -/
theorem loadB {P : Program} {ty : TypeId} {w : World} {g : Nat} {t : TypeId} {cs : Array Value} (hbx : Bx w g t cs) {fs : Array Field} (hu : P.underlying ty = some (.struct fs)) {n : Nat} (hi : (P.info? ty).map (·.size) = some n) (hN : cs.size = n) :
    (loadVar ty ⟨g, 0, none⟩).run P w = .ok (.agg cs) w := by
  have h := run_loadVar_mid (P := P) w g 0 ty cs.toList _ hbx.range hu rfl (by rw [hi, ← hN]; rfl)
  simpa using h
theorem wpList_ldB {P : Program} {ops : Array Oper} {rest : List Oper} {op : Oper} {a : Act} {w : World} {Q : Exit → Act → World → Prop} (hgd : op.guard = none) (ty : TypeId) (x : Operand) (ho : op.op = .load ty x)
    {g : Nat} {t : TypeId} {cs : Array Value} (hbx : Bx w g t cs) (hx : a.eval x = .pointer (some ⟨g, 0, none⟩)) {fs : Array Field} (hu : P.underlying ty = some (.struct fs)) (n : Nat) (hi : (P.info? ty).map (·.size) = some n) (hN : cs.size = n)
    (h : wpList P ops Q rest (a.put op.dst (.agg cs)) w) : wpList P ops Q (op :: rest) a w := by
  refine wpList_load_mid hgd ty x ho g 0 hx cs.toList _ hbx.range hu rfl (by rw [hi, ← hN]; rfl) ?_
  simpa using h
/-- A result that lies in a box. -/
theorem results_box {P : Program} {fn : Func} {t : Tmp} {ty : TypeId} (h : fn.results = #[.cell t ty]) {tmps : Array Value} {w : World} {g : Nat} {cs : Array Value} (hp : tmps.getD t undef = .pointer (some ⟨g, 0, none⟩)) (hl : (loadVar ty ⟨g, 0, none⟩).run P w = .ok (.agg cs) w) :
    (results fn tmps).run P w = .ok (.agg cs) w := by
  unfold results
  rw [h]
  simp [-Array.getD_eq_getD_getElem?, hp, asAddr, hl, Sem.run_bind]
theorem results_box2 {P : Program} {fn : Func} {t u : Tmp} {ty : TypeId} (h : fn.results = #[.cell t ty, .tmp u]) {tmps : Array Value} {w : World} {g : Nat} {cs : Array Value} (hp : tmps.getD t undef = .pointer (some ⟨g, 0, none⟩)) (hl : (loadVar ty ⟨g, 0, none⟩).run P w = .ok (.agg cs) w) :
    (results fn tmps).run P w = .ok (.tuple #[.agg cs, tmps.getD u undef]) w := by
  unfold results
  rw [h]
  simp [-Array.getD_eq_getD_getElem?, hp, asAddr, hl, Sem.run_bind]
theorem results_box4 {P : Program} {fn : Func} {t t' u v : Tmp} {ty ty' : TypeId} (h : fn.results = #[.cell t ty, .cell t' ty', .tmp u, .tmp v]) {tmps : Array Value} {w : World} {g g' : Nat} {cs cs' : Array Value} (hp : tmps.getD t undef = .pointer (some ⟨g, 0, none⟩)) (hp' : tmps.getD t' undef = .pointer (some ⟨g', 0, none⟩)) (hl : (loadVar ty ⟨g, 0, none⟩).run P w = .ok (.agg cs) w) (hl' : (loadVar ty' ⟨g', 0, none⟩).run P w = .ok (.agg cs') w) :
    (results fn tmps).run P w = .ok (.tuple #[.agg cs, .agg cs', tmps.getD u undef, tmps.getD v undef]) w := by
  unfold results
  rw [h]
  simp [-Array.getD_eq_getD_getElem?, hp, hp', asAddr, hl, hl', Sem.run_bind]
theorem infoCall : (Tryd.prog.info? 28).map (·.size) = some 15 := by kernel_rfl
theorem infoAns : (Tryd.prog.info? 36).map (·.size) = some 16 := by kernel_rfl
theorem infoAd : (Tryd.prog.info? 24).map (·.size) = some 3 := by kernel_rfl
theorem infoPx : (Tryd.prog.info? 26).map (·.size) = some 4 := by kernel_rfl
theorem infoLe : (Tryd.prog.info? 31).map (·.size) = some 2 := by kernel_rfl
theorem infoStr : (Tryd.prog.info? 9).map (·.size) = some 1 := by kernel_rfl
theorem infoU64 : (Tryd.prog.info? 22).map (·.size) = some 1 := by kernel_rfl
theorem infoInt : (Tryd.prog.info? 3).map (·.size) = some 1 := by kernel_rfl
theorem infoBool : (Tryd.prog.info? 4).map (·.size) = some 1 := by kernel_rfl
theorem structCall : Tryd.prog.underlying 28 = some (.struct (Tryd.prog.fieldsOf 28)) := by kernel_rfl
theorem structAns : Tryd.prog.underlying 36 = some (.struct (Tryd.prog.fieldsOf 36)) := by kernel_rfl
end Go.Proofs.YtcobfoiajdbahaaDoor
