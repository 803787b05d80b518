/- Laws for the walks: bytes of a string in a block. -/
import Derived.WalkKit
import Derived.Handy
import Derived.Lib.Hide
import Derived.WalkLawsBesides
import Derived.WalkSpells
import Derived.Test.YtcobfoiajdbahaaDoorPByt
namespace Go.Proofs.YtcobfoiajdbahaaDoor
open Go.RowKit

/-- A string value out of its bytes. -/
abbrev S (l : List UInt8) : Value := .string ⟨l.toArray⟩

/-- Block b holds the bytes l from its beginning on. -/
def BytesAt (w : World) (b : Nat) (l : List UInt8) : Prop := ∀ (j : Nat) (h : j < l.length), w.cell? ⟨b, j, none⟩ = some (.int .u8 (l[j].toNat : Int))
theorem BytesAt.below {w w' : World} {b B : Nat} {l : List UInt8} (h : BytesAt w b l) (hb : Below B w w') (hB : b < B) : BytesAt w' b l :=
  fun j hj => (hb.cell (p := ⟨b, j, none⟩) hB).trans (h j hj)

theorem below_drewN {B : Nat} {a w : World} (h : Below B a w) (n : Nat) : Below B a (w.drewN n) := ⟨h.os, h.tape, h.output, h.size, h.block⟩

section
variable {P : Program} {ops : Array Oper} {Q : Exit → Act → World → Prop} {a : Act} {w : World} {rest : List Oper}

theorem conv_bytes (src dst e : TypeId) (l : List UInt8) (hs : P.underlying src = some .string) (hd : P.underlying dst = some (.slice e)) (he : P.underlying e = some (.int .u8)) :
    ∃ (cap : Nat) (w1 : World), (convert src dst (S l)).run P w = .ok (.slice (some ⟨w.heap.size, 0, none⟩) l.length cap) w1 ∧ BytesAt w1 w.heap.size l ∧ Below w.heap.size w w1 ∧ w.heap.size < w1.heap.size := by
  refine ⟨_, _, run_bytes_of_string w src dst e ⟨l.toArray⟩ hs hd he, ?_, ?_, ?_⟩
  · intro j hj
    have h := World.cell?_alloc_mark w.drew (bytesRow ⟨l.toArray⟩ (grownCap w (ByteArray.mk l.toArray).size 0 e)) e ((bytesRow ⟨l.toArray⟩ (grownCap w (ByteArray.mk l.toArray).size 0 e)).size, (bytesRow ⟨l.toArray⟩ (grownCap w (ByteArray.mk l.toArray).size 0 e)).size + 1) j
    rw [World.size_drew] at h
    rw [h, bytesRow_at _ _ _ (by simpa using hj)]
    simp
  · exact ((Below.refl _ _).drew).alloc (Nat.le_refl _) _
  · simp

/-- '[]byte(s)'. -/
theorem wpList_conv_bytes {d : Option Tmp} {ty src dst : TypeId} {pos : String} {aft : Array Edge} {x : Operand} (l : List UInt8) (hx : a.eval x = S l) (e : TypeId)
    (hs : P.underlying src = some .string) (hd : P.underlying dst = some (.slice e)) (he : P.underlying e = some (.int .u8))
    (h : ∀ (cap : Nat) (w1 : World), BytesAt w1 w.heap.size l → Below w.heap.size w w1 → w.heap.size < w1.heap.size →
      wpList P ops Q rest (a.put d (.slice (some ⟨w.heap.size, 0, none⟩) l.length cap)) w1) :
    wpList P ops Q (⟨d, .convert src dst x, ty, pos, aft, none⟩ :: rest) a w := by
  refine wpList_plain rfl fun K hK => ?_
  obtain ⟨cap, w1, hr, h1, h2, h3⟩ := conv_bytes (P := P) (w := w) src dst e l hs hd he
  unfold Oper.wp execOp
  simp only [hx, Sem.run_bind, hr, Result.andThen_ok, Sem.run_pure]
  exact hK _ _ (h cap w1 h1 h2 h3)
end

/-- A box of four cells, seen behind a call. -/
theorem box4 {w w1 : World} {c0 c1 c2 c3 : Value} {t : TypeId} (hb : Below (w.alloc (.cells #[c0, c1, c2, c3] t)).heap.size (w.alloc (.cells #[c0, c1, c2, c3] t)) w1) :
    w1.cell? ⟨w.heap.size, 0, none⟩ = some c0 ∧ w1.cell? ⟨w.heap.size, 1, none⟩ = some c1 ∧ w1.cell? ⟨w.heap.size, 2, none⟩ = some c2 ∧ w1.cell? ⟨w.heap.size, 3, none⟩ = some c3 ∧
      w.heap.size < w1.heap.size ∧ Below w.heap.size w w1 := by
  have hc : ∀ i, w1.cell? ⟨w.heap.size, i, none⟩ = (#[c0, c1, c2, c3] : Array Value)[i]? := fun i => by
    rw [hb.cell (p := ⟨w.heap.size, i, none⟩) (by simp), World.cell?_alloc_new]
  have hs := hb.size
  simp at hs
  refine ⟨by rw [hc]; rfl, by rw [hc]; rfl, by rw [hc]; rfl, by rw [hc]; rfl, by omega, ?_⟩
  exact ((Below.refl _ _).alloc (Nat.le_refl _) _).trans (hb.mono (by simp))

/-- A cell behind a store into it. -/
theorem cell_set_same (w : World) (a : Addr) (v : Value) (h : (w.cell? a).isSome = true) : (w.setCell a v).cell? a = some v := by
  obtain ⟨u, hu⟩ := Option.isSome_iff_exists.1 h
  exact World.cell?_setCell_same w a v hu
/-- Two boxes, seen behind a call. -/
theorem two_box {w w1 : World} {A B : Array Value} {t u : TypeId} (hb : Below (((w.alloc (.cells A t)).alloc (.cells B u)).drew).heap.size (((w.alloc (.cells A t)).alloc (.cells B u)).drew) w1) :
    (∀ i, w1.cell? ⟨w.heap.size, i, none⟩ = A[i]?) ∧ (∀ i, w1.cell? ⟨w.heap.size + 1, i, none⟩ = B[i]?) ∧ (∀ i, w1.frozen? ⟨w.heap.size, i, none⟩ = false) ∧ w.heap.size + 1 < w1.heap.size ∧ Below w.heap.size w w1 := by
  have hs := hb.size
  simp at hs
  refine ⟨fun i => ?_, fun i => ?_, fun i => ?_, by omega, ?_⟩
  · rw [hb.cell (p := ⟨w.heap.size, i, none⟩) (by simp; omega), World.cell?_drew, World.cell?_alloc_lt _ _ _ (by simp), World.cell?_alloc_new]
  · rw [hb.cell (p := ⟨w.heap.size + 1, i, none⟩) (by simp), World.cell?_drew, World.cell?_alloc_at _ _ _ _ (by simp)]
  · rw [hb.frozen (p := ⟨w.heap.size, i, none⟩) (by simp; omega), World.frozen?_drew, World.frozen?_alloc_past _ _ _ (by simp), World.frozen?_alloc_new]
  · exact ((((Below.refl _ _).alloc (Nat.le_refl _) _).alloc (by simp) _).drew).trans (hb.mono (by simp; omega))

/-! ### A block of bytes that is known whole -/
def u8V (b : UInt8) : Value := .int .u8 (b.toNat : Int)
def bytesV (l : List UInt8) : Array Value := (l.map u8V).toArray
/-- Block g is just the bytes l, none of them frozen. -/
def Blk (w : World) (g : Nat) (t : TypeId) (l : List UInt8) : Prop := w.heap[g]? = some (.cells (bytesV l) t (0, 0))

theorem u8_wrap_nat (n : Nat) : IntKind.u8.wrap (n : Int) = ((P.byt n).toNat : Int) := by rw [IntKind.wrap_u8, P.byt_toNat]; omega
theorem u8_wrap_div256 (n : Nat) : IntKind.u8.wrap ((n : Int) / (256 : Int)) = ((P.byt (n / 256)).toNat : Int) := by rw [IntKind.wrap_u8, P.byt_toNat]; omega

theorem Blk.lt {w : World} {g : Nat} {t : TypeId} {l : List UInt8} (h : Blk w g t l) : g < w.heap.size := by
  rcases Nat.lt_or_ge g w.heap.size with hlt | hge
  · exact hlt
  · unfold Blk at h; rw [Array.getElem?_eq_none hge] at h; cases h
theorem Blk.cell {w : World} {g : Nat} {t : TypeId} {l : List UInt8} (h : Blk w g t l) (i : Nat) (hi : i < l.length) : w.cell? ⟨g, i, none⟩ = some (.int .u8 (l[i].toNat : Int)) := by
  unfold Blk at h
  simp [World.cell?, h, bytesV, u8V, hi]
theorem Blk.frozen {w : World} {g : Nat} {t : TypeId} {l : List UInt8} (h : Blk w g t l) (i : Nat) : w.frozen? ⟨g, i, none⟩ = false := by
  unfold Blk at h
  simp [World.frozen?, h]
theorem Blk.below {w w' : World} {g B : Nat} {t : TypeId} {l : List UInt8} (h : Blk w g t l) (hb : Below B w w') (hg : g < B) : Blk w' g t l := (hb.block g hg).trans h
theorem Blk.up {w w' : World} {g : Nat} {t : TypeId} {l : List UInt8} (h : Blk w g t l) (hb : Below w.heap.size w w') : Blk w' g t l := h.below hb h.lt
theorem Blk.alloc {w : World} {g : Nat} {t : TypeId} {l : List UInt8} (h : Blk w g t l) (o : Obj) : Blk (w.alloc o) g t l := (Below.heap_alloc w o g h.lt).trans h
theorem Blk.set {w : World} {g : Nat} {t : TypeId} {l : List UInt8} (h : Blk w g t l) (i : Nat) (b : UInt8) : Blk (w.setCell ⟨g, i, none⟩ (.int .u8 (b.toNat : Int))) g t (l.set i b) := by
  unfold Blk at h ⊢
  simp only [World.setCell, Array.getElem?_modify, if_true, h, Option.map_some]
  have : (bytesV l).setIfInBounds i (.int .u8 (b.toNat : Int)) = bytesV (l.set i b) := by
    unfold bytesV
    rw [List.map_set]
    simp [u8V]
  simp [this]
theorem Blk.string {P : Program} {w : World} {g : Nat} {t : TypeId} {l : List UInt8} (h : Blk w g t l) (src dst e : TypeId) (hs : P.underlying src = some (.slice e)) (he : P.underlying e = some (.int .u8)) (hd : P.underlying dst = some .string)
    (off n cap : Nat) (hn : off + n ≤ l.length) : (convert src dst (.slice (some ⟨g, off, none⟩) n cap)).run P w = .ok (S ((l.drop off).take n)) w := by
  have hlen : (((l.drop off).take n).map fun b => (b.toNat : Int)).length = n := by simp; omega
  have hr := run_convert_bytes_arg (P := P) (w := w) src e hs he g off n cap (((l.drop off).take n).map fun b => (b.toNat : Int)) hlen (fun i hi => by
    rw [h.cell (off + i) (by omega)]
    have h1 : off + i < l.length := by omega
    simp [List.getD_eq_getElem?_getD, hi, h1]) dst hd
  rw [hr]
  have e1 : strOfNums (((l.drop off).take n).map fun b => (b.toNat : Int)) = ⟨((l.drop off).take n).toArray⟩ := by
    unfold strOfNums
    congr 2
    rw [List.map_map]
    conv => rhs; rw [← List.map_id ((l.drop off).take n)]
    apply List.map_congr_left
    intro b _
    simp
  rw [e1]

theorem blk_lit {W w1 : World} {cs : Array Value} {t : TypeId} {l : List UInt8} (hW : W.heap = w1.heap.push (.cells cs t)) (h : cs = bytesV l) : Blk W w1.heap.size t l := by
  subst h
  unfold Blk
  rw [hW]
  simp
theorem grown_cell {w w' : World} {g b o : Nat} {v : Value} (hg : w.grownBy w' (some g)) (hne : b ≠ g) (hc : w.cell? ⟨b, o, none⟩ = some v) : w'.cell? ⟨b, o, none⟩ = some v := by
  rw [World.cell?_of_block (hg.block b (World.block_lt_of_cell? w ⟨b, o, none⟩ hc) (by simpa using hne))]
  exact hc
theorem below_grown {w w' a : World} {g B : Nat} (h : Below B a w) (hg : w.grownBy w' (some g)) (hB : B ≤ w.heap.size) (hBg : B ≤ g) : Below B a w' :=
  h.grown hg hB (fun k hk => by cases hk; exact hBg)

/-- 'string(b)', b a piece of a block of bytes that is known whole. -/
theorem wpList_conv_str {P : Program} {ops : Array Oper} {Q : Exit → Act → World → Prop} {a : Act} {w : World} {rest : List Oper} {d : Option Tmp} {ty src dst : TypeId} {pos : String} {aft : Array Edge} {x : Operand}
    (e t : TypeId) (g off n cap : Nat) (l r : List UInt8) (hx : a.eval x = .slice (some ⟨g, off, none⟩) n cap)
    (hs : P.underlying src = some (.slice e)) (he : P.underlying e = some (.int .u8)) (hd : P.underlying dst = some .string)
    (hB : Blk w g t l) (hn : off + n ≤ l.length) (hr : (l.drop off).take n = r)
    (h : wpList P ops Q rest (a.put d (S r)) w) : wpList P ops Q (⟨d, .convert src dst x, ty, pos, aft, none⟩ :: rest) a w := by
  refine wpList_plain rfl fun K hK => ?_
  have hrun := hB.string (P := P) src dst e hs he hd off n cap hn
  rw [hr] at hrun
  unfold Oper.wp execOp
  simp only [hx, Sem.run_bind, hrun, Result.andThen_ok, Sem.run_pure]
  exact hK _ _ h

/-! ### A block that holds the bytes l from its beginning on, to be written there -/
def Wrt (w : World) (b : Nat) (l : List UInt8) : Prop := b < w.heap.size ∧ BytesAt w b l ∧ ∀ j, j < l.length → w.frozen? ⟨b, j, none⟩ = false
theorem Wrt.below {w w' : World} {b B : Nat} {l : List UInt8} (h : Wrt w b l) (hb : Below B w w') (hB : b < B) : Wrt w' b l :=
  ⟨Nat.lt_of_lt_of_le h.1 hb.size, h.2.1.below hb hB, fun j hj => (hb.frozen (p := ⟨b, j, none⟩) hB).trans (h.2.2 j hj)⟩
theorem Wrt.set {w : World} {b : Nat} {l : List UInt8} (h : Wrt w b l) (i : Nat) (hi : i < l.length) (c : UInt8) : Wrt (w.setCell ⟨b, i, none⟩ (.int .u8 (c.toNat : Int))) b (l.set i c) := by
  refine ⟨by simpa using h.1, fun j hj => ?_, fun j hj => ?_⟩
  · have hj' : j < l.length := by simpa using hj
    by_cases hij : i = j
    · subst hij
      rw [cell_set_same _ _ _ (by rw [h.2.1 i hi]; rfl)]
      simp
    · rw [World.cell?_setCell_other _ _ _ _ (fun e => hij (by injection e)), h.2.1 j hj']
      simp [hij]
  · rw [World.frozen?_setCell]
    exact h.2.2 j (by simpa using hj)
theorem Wrt.string {P : Program} {w : World} {g : Nat} {l : List UInt8} (h : Wrt w g l) (src dst e : TypeId) (hs : P.underlying src = some (.slice e)) (he : P.underlying e = some (.int .u8)) (hd : P.underlying dst = some .string)
    (n cap : Nat) (hn : l.length = n) : (convert src dst (.slice (some ⟨g, 0, none⟩) n cap)).run P w = .ok (S l) w := by
  subst hn
  have hr := run_convert_bytes_arg (P := P) (w := w) src e hs he g 0 l.length cap (l.map fun b => (b.toNat : Int)) (by simp) (fun i hi => by
    rw [Nat.zero_add, h.2.1 i hi]
    simp [List.getD_eq_getElem?_getD, hi]) dst hd
  rw [hr]
  have e1 : strOfNums (l.map fun b => (b.toNat : Int)) = ⟨l.toArray⟩ := by
    unfold strOfNums
    congr 2
    rw [List.map_map]
    conv => rhs; rw [← List.map_id l]
    apply List.map_congr_left
    intro b _
    simp
  rw [e1]
/-- '[]byte(s)', to be written. -/
theorem wpList_conv_wrt {P : Program} {ops : Array Oper} {Q : Exit → Act → World → Prop} {a : Act} {w : World} {rest : List Oper} {d : Option Tmp} {ty src dst : TypeId} {pos : String} {aft : Array Edge} {x : Operand} (l : List UInt8) (hx : a.eval x = S l) (e : TypeId)
    (hs : P.underlying src = some .string) (hd : P.underlying dst = some (.slice e)) (he : P.underlying e = some (.int .u8))
    (h : ∀ (cap : Nat) (w1 : World), Wrt w1 w.heap.size l → Below w.heap.size w w1 → wpList P ops Q rest (a.put d (.slice (some ⟨w.heap.size, 0, none⟩) l.length cap)) w1) :
    wpList P ops Q (⟨d, .convert src dst x, ty, pos, aft, none⟩ :: rest) a w := by
  refine wpList_plain rfl fun K hK => ?_
  have hr := run_bytes_of_string (P := P) w src dst e ⟨l.toArray⟩ hs hd he
  unfold Oper.wp execOp
  simp only [hx, Sem.run_bind, hr, Result.andThen_ok, Sem.run_pure]
  refine hK _ _ (h _ _ ⟨by simp, fun j hj => ?_, fun j hj => ?_⟩ (((Below.refl _ _).drew).alloc (Nat.le_refl _) _))
  · have h := World.cell?_alloc_mark w.drew (bytesRow ⟨l.toArray⟩ (grownCap w (ByteArray.mk l.toArray).size 0 e)) e ((bytesRow ⟨l.toArray⟩ (grownCap w (ByteArray.mk l.toArray).size 0 e)).size, (bytesRow ⟨l.toArray⟩ (grownCap w (ByteArray.mk l.toArray).size 0 e)).size + 1) j
    rw [World.size_drew] at h
    rw [h, bytesRow_at _ _ _ (by simpa using hj)]
    simp
  · have h := World.frozen?_alloc_mark w.drew (bytesRow ⟨l.toArray⟩ (grownCap w (ByteArray.mk l.toArray).size 0 e)) e (bytesRow ⟨l.toArray⟩ (grownCap w (ByteArray.mk l.toArray).size 0 e)).size ((bytesRow ⟨l.toArray⟩ (grownCap w (ByteArray.mk l.toArray).size 0 e)).size + 1) j
    rw [World.size_drew] at h
    rw [h]
    have hsz : l.length ≤ (bytesRow ⟨l.toArray⟩ (grownCap w (ByteArray.mk l.toArray).size 0 e)).size := by simp [bytesRow]
    simp
    omega

/-- A text laid over a list of bytes from a place on. -/
def over (cur : List UInt8) (off : Nat) (l : List UInt8) : List UInt8 := cur.take off ++ l ++ cur.drop (off + l.length)

/-- 'copy(b[off:], s)', s a string: one step of a region that draws its order. -/
theorem step_copy_str {P : Program} {ops : Array Oper} {o : Oper} {a : Act} {w : World} {K : Act → World → Prop} {Q : Exit → Act → World → Prop} {E : Prop} (hgd : o.guard = none) (d s : Operand) (dT sT : TypeId)
    (ho : o.op = .call { callee := .builtin .copy, args := #[d, s], argTypes := #[dT, sT] }) (elem : TypeId) (hu : P.underlying dT = some (.slice elem)) (hsz : (P.info? elem).map (·.size) = some 1)
    (g off dLen dCap : Nat) (l : List UInt8) (hd : a.eval d = .slice (some ⟨g, off, none⟩) dLen dCap) (hs : a.eval s = S l) (t : TypeId) (cur : List UInt8) (hg : Blk w g t cur) (hle : l.length ≤ dLen) (hfit : off + l.length ≤ cur.length)
    (h : ∀ w', Blk w' g t (over cur off l) → w.grownBy w' (some g) → K (a.put o.dst (goInt l.length)) w') :
    if Region.wanted o (yielded ops a.tmps) = true then Oper.wp P o a w K Q else E := by
  have hw : Region.wanted o (yielded ops a.tmps) = true := by simp [Region.wanted, hgd]
  rw [if_pos hw]
  have hst := run_storeCells_at P g off t (l.map u8V) 0 (bytesV cur) w hg (by simp [bytesV]; omega) (by
    intro v hv
    obtain ⟨b, _, rfl⟩ := List.mem_map.1 hv
    rfl)
  have he : ((bytesV cur).toList.take (off + 0) ++ l.map u8V ++ (bytesV cur).toList.drop (off + 0 + (l.map u8V).length)).toArray = bytesV (over cur off l) := by
    simp [bytesV, over, List.map_take, List.map_drop]
  rw [he] at hst
  have hrun : (Builtin.copy_ #[dT, sT] o.type #[.slice (some ⟨g, off, none⟩) dLen dCap, S l]).run P w = .ok (goInt l.length) (w.setRow g (bytesV (over cur off l))) := by
    cases hq : P.info? elem with
    | none => simp [hq] at hsz
    | some i =>
      have hmin : Nat.min l.length dLen = l.length := Nat.min_eq_left hle
      have hsize : (ByteArray.mk l.toArray).size = l.length := by show l.toArray.size = _; simp
      have hm2 : (List.map (fun b : UInt8 => Value.int .u8 (b.toNat : Int)) l) = l.map u8V := rfl
      have htk : (l.map u8V).take l.length = l.map u8V := List.take_of_length_le (by simp)
      simp [Builtin.copy_, run_underlying hu, Builtin.lenOf, Builtin.firstCells, sizeOf, typeInfo, hq, hsize, hmin, hm2, htk, hst]
  unfold Oper.wp
  simp [execOp, ho, resolve, invoke, builtin, hd, hs, hrun, Result.andThen]
  refine h _ (setRow_heap w g _ _ t _ hg) ⟨rfl, rfl, rfl, by simp, fun k _ hne => setRow_other w g k _ (fun e => hne (by rw [e]))⟩
end Go.Proofs.YtcobfoiajdbahaaDoor
