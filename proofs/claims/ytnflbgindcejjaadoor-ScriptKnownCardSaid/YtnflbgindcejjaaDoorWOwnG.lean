/- Laws for the walks: bytes that the call owns, in a block of whatever mark ('[]byte(s)'), a text appended, turned into a string. -/
import Derived.Test.YtnflbgindcejjaaDoorWOwn
import Derived.Test.YtnflbgindcejjaaDoorWUp
import Derived.Test.YtnflbgindcejjaaDoorWBx
import Derived.Deep.Upon
import Derived.Deep.AppendSrc
import Derived.Lib.LazyBuf
import Derived.Lib.AppendStr
import Derived.Lib.AppendIntMem
import Derived.Deep.MidRow
namespace Go.Proofs.YtnflbgindcejjaaDoor
open Go.RowKit

/-- The slice value v owns the bytes l; its block may bear a mark, outside its room. -/
def OwnG (w : World) (B : Nat) (v : Value) (l : List UInt8) : Prop :=
  ∃ g cap, v = .slice (some ⟨g, 0, none⟩) l.length cap ∧ B ≤ g ∧ g < w.heap.size ∧ l.length ≤ cap ∧ cap ≤ maxLen ∧ (∃ cur fz, w.heap[g]? = some (.cells cur 5 fz)) ∧
    (∀ (j : Nat) (h : j < l.length), w.cell? ⟨g, j, none⟩ = some (u8V l[j])) ∧ (∀ j, j < cap → (w.cell? ⟨g, j, none⟩).isSome = true) ∧ ∀ j, j < cap → w.frozen? ⟨g, j, none⟩ = false
section
variable {w w' : World} {B : Nat} {v : Value} {l : List UInt8}
theorem OwnG.up (h : OwnG w B v l) (hb : Below w.heap.size w w') : OwnG w' B v l := by
  obtain ⟨g, cap, rfl, h1, h2, h3, h4, hty, h5, h6, h7⟩ := h
  obtain ⟨cur, fz, hty⟩ := hty
  exact ⟨g, cap, rfl, h1, Nat.lt_of_lt_of_le h2 hb.size, h3, h4, ⟨cur, fz, (hb.block g h2).trans hty⟩, fun j hj => (hb.cell (p := ⟨g, j, none⟩) h2).trans (h5 j hj), fun j hj => by rw [hb.cell (p := ⟨g, j, none⟩) h2]; exact h6 j hj, fun j hj => by rw [hb.frozen (p := ⟨g, j, none⟩) h2]; exact h7 j hj⟩
theorem OwnG.other (h : OwnG w B v l) {g : Nat} (hg : g < B) (i : Nat) (u : Value) : OwnG (w.setCell ⟨g, i, none⟩ u) B v l := by
  obtain ⟨g', cap, rfl, h1, h2, h3, h4, hty, h5, h6, h7⟩ := h
  have hne : ∀ j, (w.setCell ⟨g, i, none⟩ u).cell? ⟨g', j, none⟩ = w.cell? ⟨g', j, none⟩ := fun j => World.cell?_setCell_other _ _ _ _ (by intro e; injection e with e; omega)
  obtain ⟨cur, fz, hty⟩ := hty
  exact ⟨g', cap, rfl, h1, by simpa using h2, h3, h4, ⟨cur, fz, by rw [Below.heap_setCell _ _ _ _ (by show g' ≠ g; omega)]; exact hty⟩, fun j hj => by rw [hne]; exact h5 j hj, fun j hj => by rw [hne]; exact h6 j hj, fun j hj => by rw [World.frozen?_setCell]; exact h7 j hj⟩
theorem OwnG.at (h : OwnG w B v l) : ∃ g cap, v = .slice (some ⟨g, 0, none⟩) l.length cap ∧ B ≤ g ∧ g < w.heap.size := by
  obtain ⟨g, cap, rfl, h1, h2, _⟩ := h
  exact ⟨g, cap, rfl, h1, h2⟩
end

/-- '[]byte(s)'. -/
theorem wpList_conv_ownG {P : Program} {ops : Array Oper} {Q : Exit → Act → World → Prop} {a : Act} {w : World} {rest : List Oper} {d : Option Tmp} {ty src dst : TypeId} {pos : String} {aft : Array Edge} {x : Operand} (l : List UInt8) (hx : a.eval x = S l) (e : TypeId)
    (he0 : e = 5) (hs : P.underlying src = some .string) (hd : P.underlying dst = some (.slice e)) (he : P.underlying e = some (.int .u8)) (hl : l.length ≤ 1000000)
    (h : ∀ (v : Value) (w1 : World), OwnG w1 w.heap.size v l → Below w.heap.size w w1 → wpList P ops Q rest (a.put d v) w1) :
    wpList P ops Q (⟨d, .convert src dst x, ty, pos, aft, none⟩ :: rest) a w := by
  refine wpList_plain rfl fun K hK => ?_
  have hr := run_bytes_of_string (P := P) w src dst e ⟨l.toArray⟩ hs hd he
  have hsz : (ByteArray.mk l.toArray).size = l.length := by show l.toArray.size = _; simp
  unfold Oper.wp execOp
  simp only [hx, Sem.run_bind, hr, Result.andThen_ok, Sem.run_pure]
  refine hK _ _ (h _ _ ?_ ((Below.refl _ _).drew.alloc (Nat.le_refl _) _))
  have hge := grownCap_ge w (ByteArray.mk l.toArray).size 0 e
  have hcm := grownCap_le_maxLen w (ByteArray.mk l.toArray).size 0 e (by rw [hsz]; unfold maxLen; omega)
  generalize grownCap w (ByteArray.mk l.toArray).size 0 e = cap at *
  have hrow : (bytesRow ⟨l.toArray⟩ cap).size = cap := by
    unfold bytesRow
    rw [Array.size_append, Array.size_map, Array.size_replicate]
    show (ByteArray.mk l.toArray).size + _ = _
    omega
  have hcell : ∀ j, (w.drew.alloc (.cells (bytesRow ⟨l.toArray⟩ cap) e ((bytesRow ⟨l.toArray⟩ cap).size, (bytesRow ⟨l.toArray⟩ cap).size + 1))).cell? ⟨w.heap.size, j, none⟩ = (bytesRow ⟨l.toArray⟩ cap)[j]? := by
    intro j
    have h := World.cell?_alloc_mark w.drew (bytesRow ⟨l.toArray⟩ cap) e ((bytesRow ⟨l.toArray⟩ cap).size, (bytesRow ⟨l.toArray⟩ cap).size + 1) j
    rwa [World.size_drew] at h
  have hheap : ∀ (O : Obj), (w.drew.alloc O).heap[w.heap.size]? = some O := fun O => by
    show (w.heap.push _)[w.heap.size]? = _
    simp
  refine ⟨w.heap.size, cap, by rw [hsz], Nat.le_refl _, by simp, by omega, hcm, ⟨_, _, by rw [hheap, he0]⟩, fun j hj => ?_, fun j hj => ?_, fun j hj => ?_⟩
  · rw [hcell, bytesRow_at _ _ _ (by simpa using hj)]
    simp [u8V]
  · rw [hcell, Array.getElem?_eq_getElem (by omega)]
    rfl
  · rw [hrow]
    simp only [World.frozen?, hheap]
    simp
    omega

theorem setCells_kind (g : Nat) (e : TypeId) : ∀ (vs : List Value) (o : Nat) (w : World) (cur : Array Value) (fz : Nat × Nat), w.heap[g]? = some (.cells cur e fz) → ∃ cur fz, (w.setCells g o vs).heap[g]? = some (.cells cur e fz)
  | [], _, _, cur, fz, h => ⟨cur, fz, h⟩
  | v :: r, o, w, cur, fz, h => setCells_kind g e r (o + 1) _ (cur.setIfInBounds o v) fz (by simp [World.setCell, Array.getElem?_modify, h])
theorem byteCells_u8 (m : List UInt8) : Go.byteCells ⟨m.toArray⟩ = m.map u8V := by simp [Go.byteCells, u8V]
/-- 'append(b, s...)'. -/
theorem wpList_appG {ops : Array Oper} {rest : List Oper} {o : Oper} {a : Act} {w : World} {Q : Exit → Act → World → Prop} (hgd : o.guard = none) (s x : Operand)
    (ho : o.op = .call { callee := .builtin .append, args := #[s, x], argTypes := #[30, 9] }) (B : Nat) (v : Value) (l m : List UInt8) (hs : a.eval s = v) (hown : OwnG w B v l) (hx : a.eval x = S m) (hl : l.length + m.length ≤ 140737488355328) (hB : B ≤ w.heap.size)
    (h : ∀ v' w', OwnG w' B v' (l ++ m) → Below B w w' → (∀ (b : Nat) (t : TypeId) (cs : Array Value), t ≠ 5 → Bx w b t cs → Bx w' b t cs) → wpList Tryd.prog ops Q rest (a.put o.dst v') w') :
    wpList Tryd.prog ops Q (o :: rest) a w := by
  have hi := info8
  cases hq : Tryd.prog.info? 5 with
  | none => rw [hq] at hi; cases hi
  | some i =>
    rw [hq] at hi
    simp only [Option.map_some, Option.some.injEq, Prod.mk.injEq] at hi
    obtain ⟨hz, hsize, hby⟩ := hi
    have hmz : (ByteArray.mk m.toArray).size = m.length := by show m.toArray.size = _; simp
    obtain ⟨g, cap, rfl, h1, h2, h3, h4, hty, h5, h6, h7⟩ := hown
    refine wpList_plain hgd fun K hK => ?_
    unfold Oper.wp execOp
    have hlm : (l ++ m).length = l.length + m.length := List.length_append
    by_cases hroom : l.length + m.length ≤ cap
    · have hr := run_append_room_src (P := Tryd.prog) (w := w) 30 9 o.type 5 i Tryd.underlying30 hq g 0 l.length cap (.string ⟨m.toArray⟩) m.length (Go.byteCells ⟨m.toArray⟩)
        (by rw [hsize]; have := Src.ofString (P := Tryd.prog) w Tryd.underlying9 ⟨m.toArray⟩; rwa [hmz] at this) hroom
        (fun j hj => by rw [hsize, Nat.mul_one, Nat.zero_add]; exact h6 _ (by rw [byteCells_u8, List.length_map] at hj; omega))
        (fun j hj => by rw [hsize, Nat.mul_one, Nat.zero_add]; exact h7 _ (by rw [byteCells_u8, List.length_map] at hj; omega))
      rw [hsize, Nat.mul_one, Nat.zero_add, byteCells_u8] at hr
      simp only [ho, resolve, invoke, builtin, Sem.run_bind, Sem.run_pure, Result.andThen_ok, List.map_toArray, List.map_cons, List.map_nil, hs, hx, hr]
      have hso : ∀ j, j < (m.map u8V).length → (w.cell? ⟨g, l.length + j, none⟩).isSome = true := fun j hj => h6 _ (by rw [List.length_map] at hj; omega)
      obtain ⟨cur, fz, hty⟩ := hty
      have hne : ∀ (b : Nat) (t : TypeId) (cs : Array Value), t ≠ 5 → Bx w b t cs → b ≠ g := by
        intro b t cs ht hbx e
        subst e
        unfold Bx at hbx
        rw [hty] at hbx
        injection hbx with hbx
        injection hbx with _ hbx
        exact ht hbx.symm
      refine hK _ _ (h _ _ ⟨g, cap, by rw [hlm], h1, by have := (below_setCells (Nat.le_refl g) (m.map u8V) l.length w (Below.refl g w)).size; omega, by omega, h4, setCells_kind _ _ _ _ _ _ _ hty, fun j hj => ?_, fun j hj => World.isSome_setCells g _ _ _ _ (h6 j hj), fun j hj => by rw [World.frozen?_setCells]; exact h7 j hj⟩ (below_setCells h1 _ _ _ (Below.refl B w)) (fun b t cs ht hbx => (World.heap_setCells_other w g _ _ hbx.lt (hne b t cs ht hbx)).trans hbx))
      by_cases hjl : j < l.length
      · rw [World.cell?_setCells_out g _ _ _ _ (fun _ _ => .inl hjl), h5 j hjl, List.getElem_append_left hjl]
      · obtain ⟨q, rfl⟩ : ∃ q, j = l.length + q := ⟨j - l.length, by omega⟩
        rw [World.cell?_setCells_in g _ _ _ hso q (by simp; omega)]
        simp
    · have hr := Lib.run_append_grow_string (P := Tryd.prog) w 30 9 o.type 5 i (.int .u8 0) Tryd.underlying30 Tryd.underlying9 hq hz ⟨g, 0, none⟩ l.length cap (l.map u8V) (by rw [hsize]; simp)
        (fun j u hu => by
          have hjl : j < l.length := by
            rcases Nat.lt_or_ge j l.length with h | h
            · exact h
            · rw [List.getElem?_eq_none (by simpa using h)] at hu; cases hu
          rw [show (⟨g, 0, none⟩ : Addr).add j = ⟨g, j, none⟩ by unfold Addr.add; split <;> simp_all, h5 j hjl]
          simpa [hjl] using hu)
        ⟨m.toArray⟩ (by rw [hmz]; omega) (by rw [hmz]; omega) (by rw [hmz, hby]; exact growslice_fits (by omega) (by omega))
      rw [hmz] at hr
      have hge := grownCap_ge w (l.length + m.length) cap 5
      have hcm := grownCap_le_maxLen w (l.length + m.length) cap 5 (by unfold maxLen; omega)
      generalize grownCap w (l.length + m.length) cap 5 = cap' at *
      simp only [ho, resolve, invoke, builtin, Sem.run_bind, Sem.run_pure, Result.andThen_ok, List.map_toArray, List.map_cons, List.map_nil, hs, hx, hr]
      have hstr : Lib.strCells ⟨m.toArray⟩ = m.map u8V := by rw [Lib.strCells_toArray]; rfl
      have hrow : ((l.map u8V).toArray ++ (Lib.strCells ⟨m.toArray⟩).toArray ++ Builtin.zeroCells (Value.int IntKind.u8 0).cells (cap' - (l.length + m.length))).size = cap' := by
        rw [hstr]
        simp only [Array.size_append, List.size_toArray, size_zeroCells, List.length_map]
        show _ + _ + (cap' - (l.length + m.length)) * 1 = _
        omega
      generalize hrw : (l.map u8V).toArray ++ (Lib.strCells ⟨m.toArray⟩).toArray ++ Builtin.zeroCells (Value.int IntKind.u8 0).cells (cap' - (l.length + m.length)) = rw' at *
      have hcell : ∀ j, (w.drew.alloc (.cells rw' 5)).cell? ⟨w.heap.size, j, none⟩ = rw'[j]? := fun j => by
        have h := World.cell?_alloc_new w.drew rw' 5 j
        rwa [World.size_drew] at h
      refine hK _ _ (h _ _ ⟨w.heap.size, cap', by rw [hlm], hB, by simp, by omega, hcm, ⟨rw', (0, 0), by show (w.heap.push _)[w.heap.size]? = _; simp⟩, fun j hj => ?_, fun j hj => ?_, fun j hj => ?_⟩ ((Below.refl B w).drew.alloc (by simpa using hB) _) (fun b t cs ht hbx => (heap_alloc_old w.drew _ hbx.lt).trans hbx))
      · rw [hcell, ← hrw, hstr]
        have : (l.map u8V).toArray ++ (m.map u8V).toArray = ((l ++ m).map u8V).toArray := by simp
        rw [this, Array.getElem?_append_left (by simpa using hj), List.getElem?_toArray, List.getElem?_map, List.getElem?_eq_getElem hj]
        rfl
      · rw [hcell, Array.getElem?_eq_getElem (by omega)]
        rfl
      · have := World.frozen?_alloc_new w.drew rw' 5 j
        rwa [World.size_drew] at this
set_option maxRecDepth 100000 in
theorem OwnG.string {w : World} {B : Nat} {v : Value} {l : List UInt8} (h : OwnG w B v l) : (convert 30 9 v).run Tryd.prog w = .ok (S l) w := by
  obtain ⟨g, cap, rfl, h1, h2, h3, h4, hty, h5, h6, h7⟩ := h
  have hr := run_convert_bytes_arg (P := Tryd.prog) (w := w) 30 5 Tryd.underlying30 Tryd.underlying5 g 0 l.length cap (l.map fun b => (b.toNat : Int)) (by simp) (fun i hi => by
    rw [Nat.zero_add, h5 i hi]
    simp [u8V, hi]) 9 Tryd.underlying9
  rw [hr]
  have e1 : strOfNums (l.map fun b => (b.toNat : Int)) = ⟨l.toArray⟩ := by
    unfold strOfNums
    congr 2
    rw [List.map_map]
    conv => rhs; rw [← List.map_id l]
    apply List.map_congr_left
    intro b _
    simp
  rw [e1]
/-- 'string(b)'. -/
theorem wpList_strG {ops : Array Oper} {Q : Exit → Act → World → Prop} {a : Act} {w : World} {rest : List Oper} {d : Option Tmp} {ty : TypeId} {pos : String} {aft : Array Edge} {x : Operand} {B : Nat} {v : Value} {l : List UInt8} (hx : a.eval x = v) (hown : OwnG w B v l)
    (h : wpList Tryd.prog ops Q rest (a.put d (S l)) w) : wpList Tryd.prog ops Q (⟨d, .convert 30 9 x, ty, pos, aft, none⟩ :: rest) a w := by
  refine wpList_plain rfl fun K hK => ?_
  have hrun := hown.string
  unfold Oper.wp execOp
  simp only [hx, Sem.run_bind, hrun, Result.andThen_ok, Sem.run_pure]
  exact hK _ _ h
end Go.Proofs.YtnflbgindcejjaaDoor
