/- Laws for the walks: a slice of bytes that the call owns, one byte appended, turned into a string. -/
import Derived.Test.YtcobfoiajdbahaaDoorProg
import Derived.Test.YtcobfoiajdbahaaDoorWByte
namespace Go.Proofs.YtcobfoiajdbahaaDoor
open Go.RowKit

/-- The slice value v owns the bytes l. -/
def Own (w : World) (B : Nat) (v : Value) (l : List UInt8) : Prop := w.ownsRow B 5 1 v l.length (l.map u8V)
theorem own_nil (w : World) (B : Nat) : Own w B (.slice none 0 0) [] := World.ownsRow_nil w B _ 1
theorem Own.alloc {w : World} {B : Nat} {v : Value} {l : List UInt8} (h : Own w B v l) (o : Obj) : Own (w.alloc o) B v l := World.ownsRow.alloc h o
theorem below_owned {a w w' : World} {B : Nat} {v : Value} {l : List UInt8} (hb : Below B a w) (h : Own w B v l) (hB : B ≤ w.heap.size) (hg : w.grownBy w' v.ownBlock) : Below B a w' :=
  hb.grown hg hB (fun k hk => (World.ownsRow.lt h k hk).1)

theorem info8 : (Tryd.prog.info? 5).map (fun i => (i.zero, i.size, i.bytes)) = some (some (.int .u8 0), 1, 1) := by kernel_rfl

/-- 'append(b, c)': the new byte lies in the last block. -/
theorem wpList_push {ops : Array Oper} {rest : List Oper} {o : Oper} {a : Act} {w : World} {Q : Exit → Act → World → Prop} (hgd : o.guard = none) (s x : Operand)
    (ho : o.op = .call { callee := .builtin .append, args := #[s, x], argTypes := #[85, 85] }) (B : Nat) (v : Value) (l : List UInt8) (c : UInt8) (k : Int) (hk : k = (c.toNat : Int)) (hs : a.eval s = v) (hown : Own w B v l) (hl : l.length < 140737488355328)
    (hx : a.eval x = .slice (some ⟨w.heap.size, 0, none⟩) 1 1) (hB : B ≤ w.heap.size)
    (h : ∀ v' w', Own w' B v' (l ++ [c]) → (w.alloc (.cells #[.int .u8 k] 5)).grownBy w' v.ownBlock → wpList Tryd.prog ops Q rest (a.put o.dst v') w') :
    wpList Tryd.prog ops Q (o :: rest) a (w.alloc (.cells #[.int .u8 k] 5)) := by
  subst hk
  have hi := info8
  cases hq : Tryd.prog.info? 5 with
  | none => rw [hq] at hi; cases hi
  | some i =>
    rw [hq] at hi
    simp only [Option.map_some, Option.some.injEq, Prod.mk.injEq] at hi
    refine wpList_append_own _ hgd s x 85 ho B 5 i (.int .u8 0) 1 1 Tryd.underlying85 hq hi.1 hi.2.1 hi.2.2 rfl (by decide) v l.length (l.map u8V) hs (World.ownsRow.alloc hown _)
      ⟨w.heap.size, 0, none⟩ 1 1 [u8V c] hx rfl ?_ ?_ ?_ ?_ ?_ ?_
    · intro j u hj
      match j, hj with
      | 0, hj => simp at hj; subst hj; simp [Addr.add, u8V]
    · intro u hu; simp at hu; subst hu; rfl
    · unfold maxLen; omega
    · omega
    · simp; omega
    · intro v' w' h1 h2 _
      refine h v' w' ?_ h2
      unfold Own
      simpa using h1

set_option maxRecDepth 10000 in
theorem Own.string {w : World} {B : Nat} {v : Value} {l : List UInt8} (h : Own w B v l) : (convert 85 9 v).run Tryd.prog w = .ok (S l) w := by
  obtain ⟨hlen, h⟩ := h
  rcases h with ⟨rfl, h0⟩ | ⟨g, cap, cur, rfl, _, hg, hnc, _, _, htake⟩
  · obtain rfl : l = [] := List.length_eq_zero_iff.1 h0
    have hr := run_convert_bytes_nil (P := Tryd.prog) (w := w) 85 5 Tryd.underlying85 Tryd.underlying5 0 0
    exact hr 9 Tryd.underlying9
  · have hr := run_convert_bytes_arg (P := Tryd.prog) (w := w) 85 5 Tryd.underlying85 Tryd.underlying5 g 0 l.length cap (l.map fun b => (b.toNat : Int)) (by simp) (fun i hi => by
      rw [Nat.zero_add]
      have : cur.toList[i]? = some (u8V l[i]) := by
        have := congrArg (fun q : List Value => q[i]?) htake
        simp only [List.getElem?_take, Nat.mul_one] at this
        rw [if_pos hi] at this
        rw [this]
        simp [hi]
      simp [World.cell?, hg]
      simp at this
      rw [this]
      simp [u8V, hi]) 9 Tryd.underlying9
    rw [hr]
    have e1 : strOfNums (l.map fun b => (b.toNat : Int)) = ⟨l.toArray⟩ := by
      unfold strOfNums
      congr 2
      rw [List.map_map]
      conv => rhs; rw [← List.map_id l]
      apply List.map_congr_left
      intro b _
      simp
    rw [e1]
/-- 'string(b)', b owned. -/
theorem wpList_conv_own {ops : Array Oper} {Q : Exit → Act → World → Prop} {a : Act} {w : World} {rest : List Oper} {d : Option Tmp} {ty : TypeId} {pos : String} {aft : Array Edge} {x : Operand} {B : Nat} {v : Value} {l : List UInt8} (hx : a.eval x = v) (hown : Own w B v l)
    (h : wpList Tryd.prog ops Q rest (a.put d (S l)) w) : wpList Tryd.prog ops Q (⟨d, .convert 85 9 x, ty, pos, aft, none⟩ :: rest) a w := by
  refine wpList_plain rfl fun K hK => ?_
  have hrun := hown.string
  unfold Oper.wp execOp
  simp only [hx, Sem.run_bind, hrun, Result.andThen_ok, Sem.run_pure]
  exact hK _ _ h
end Go.Proofs.YtcobfoiajdbahaaDoor
