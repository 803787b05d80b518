/- Laws for the walks: a slice of strings that the call owns, one string appended. -/
import Derived.Test.YtmfabbncoekjhaaDoorWCrc
import Derived.Laws.AppendOwn
import Derived.OwnWalk
namespace Go.Proofs.YtmfabbncoekjhaaDoor
open Go.RowKit

theorem StrsAt.up {w w' : World} {a : Option Addr} {ps : List (List UInt8)} (h : StrsAt w a ps) (hb : Below w.heap.size w w') : StrsAt w' a ps := by
  intro i hi
  obtain ⟨b, o, rfl, hlt, hc⟩ := h i hi
  exact ⟨b, o, rfl, Nat.lt_of_lt_of_le hlt hb.size, (hb.cell (p := ⟨b, o + i, none⟩) hlt).trans hc⟩
theorem strs_new (w : World) (ps : List (List UInt8)) (cs : Array Value) (t : TypeId) (h : cs = (ps.map S).toArray) : StrsAt (w.alloc (.cells cs t)) (some ⟨w.heap.size, 0, none⟩) ps := by
  intro i hi
  subst h
  refine ⟨w.heap.size, 0, rfl, by simp, ?_⟩
  rw [World.cell?_alloc_new]
  simp [hi]
/-- The slice value v owns the texts l. -/
def OwnS (w : World) (B : Nat) (v : Value) (l : List (List UInt8)) : Prop := w.ownsRow B 9 1 v l.length (l.map S)
theorem ownS_nil (w : World) (B : Nat) : OwnS w B (.slice none 0 0) [] := World.ownsRow_nil w B _ 1
theorem OwnS.alloc {w : World} {B : Nat} {v : Value} {l : List (List UInt8)} (h : OwnS w B v l) (o : Obj) : OwnS (w.alloc o) B v l := World.ownsRow.alloc h o
theorem OwnS.up {w w' : World} {B : Nat} {v : Value} {l : List (List UInt8)} (h : OwnS w B v l) (hb : Below w.heap.size w w') : OwnS w' B v l := by
  obtain ⟨h1, h2⟩ := h
  refine ⟨h1, ?_⟩
  rcases h2 with h2 | ⟨g, cap, cur, e1, e2, e3, e4⟩
  · exact .inl h2
  · have hg : g < w.heap.size := by
      rcases Nat.lt_or_ge g w.heap.size with h | h
      · exact h
      · rw [Array.getElem?_eq_none h] at e3; cases e3
    exact .inr ⟨g, cap, cur, e1, e2, (hb.block g hg).trans e3, e4⟩
theorem OwnS.is {w : World} {B : Nat} {v : Value} {l : List (List UInt8)} (h : OwnS w B v l) : ∃ a c, v = .slice a l.length c ∧ StrsAt w a l := by
  obtain ⟨_, ⟨rfl, h0⟩ | ⟨g, cap, cur, rfl, _, hg, hnc, _, hcs, htake⟩⟩ := h
  · refine ⟨none, 0, by rw [h0], fun i hi => ?_⟩
    rw [h0] at hi; omega
  · refine ⟨some ⟨g, 0, none⟩, cap, rfl, fun i hi => ⟨g, 0, rfl, ?_, ?_⟩⟩
    · rcases Nat.lt_or_ge g w.heap.size with h | h
      · exact h
      · rw [Array.getElem?_eq_none h] at hg; cases hg
    · have : cur.toList[i]? = some (S l[i]) := by
        have := congrArg (fun q : List Value => q[i]?) htake
        simp only [List.getElem?_take, Nat.mul_one] at this
        rw [if_pos hi] at this
        rw [this]
        simp [hi]
      simp [World.cell?, hg]
      simpa using this
theorem infoStr : (Tryd.prog.info? 9).map (fun i => (i.zero, i.size, i.bytes)) = some (some (.string ByteArray.empty), 1, 16) := by kernel_rfl

/-- 'append(l, s)': the new string lies in the last block. -/
theorem wpList_pushS {ops : Array Oper} {rest : List Oper} {o : Oper} {a : Act} {w : World} {Q : Exit → Act → World → Prop} (hgd : o.guard = none) (s x : Operand)
    (ho : o.op = .call { callee := .builtin .append, args := #[s, x], argTypes := #[25, 25] }) (B : Nat) (v : Value) (l : List (List UInt8)) (c : List UInt8) (hs : a.eval s = v) (hown : OwnS w B v l) (hl : l.length < 1000000000000)
    (hx : a.eval x = .slice (some ⟨w.heap.size, 0, none⟩) 1 1) (hB : B ≤ w.heap.size)
    (h : ∀ v' w', OwnS w' B v' (l ++ [c]) → Below B w w' → wpList Tryd.prog ops Q rest (a.put o.dst v') w') :
    wpList Tryd.prog ops Q (o :: rest) a (w.alloc (.cells #[S c] 9)) := by
  obtain ⟨i, hq, h1, h2, h3⟩ := info_parts infoStr
  refine wpList_append_own _ hgd s x 25 ho B 9 i (.string ByteArray.empty) 1 16 Tryd.underlying25 hq h1 h2 h3 rfl (by decide) v l.length (l.map S) hs (World.ownsRow.alloc hown _)
    ⟨w.heap.size, 0, none⟩ 1 1 [S c] hx rfl ?_ ?_ ?_ ?_ ?_ ?_
  · intro j u hj
    match j, hj with
    | 0, hj => simp at hj; subst hj; simp [Addr.add]
  · intro u hu; simp at hu; subst hu; rfl
  · unfold maxLen; omega
  · omega
  · simp; omega
  · intro v' w' h1 h2 _
    refine h v' w' ?_ ?_
    · unfold OwnS
      simpa using h1
    · exact ((Below.refl B w).alloc hB _).grown h2 (by simp; omega) (fun k hk => (World.ownsRow.lt (World.ownsRow.alloc hown (.cells #[S c] 9)) k hk).1)
end Go.Proofs.YtmfabbncoekjhaaDoor
