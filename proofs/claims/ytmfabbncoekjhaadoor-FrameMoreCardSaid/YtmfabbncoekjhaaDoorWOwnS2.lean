/- Laws for the walks: a slice of strings appended to one that the call owns. -/
import Derived.Test.YtmfabbncoekjhaaDoorWOwnS
import Derived.Test.YtmfabbncoekjhaaDoorWChain
import Derived.Laws.AppendOwnNone
namespace Go.Proofs.YtmfabbncoekjhaaDoor
open Go.RowKit

/-- A guarded operation that is wanted goes as one without a guard. -/
theorem wpList_unguard {P : Program} {ops : Array Oper} {rest : List Oper} {o : Oper} {a : Act} {w : World} {Q : Exit → Act → World → Prop} (hw : Region.wanted o (yielded ops a.tmps) = true)
    (h : wpList P ops Q ({ o with guard := none } :: rest) a w) : wpList P ops Q (o :: rest) a w := by
  unfold wpList at h ⊢
  rw [if_pos hw]
  have h1 : Region.wanted { o with guard := none } (yielded ops a.tmps) = true := rfl
  rw [if_pos h1] at h
  exact h

theorem ownS_empty (w : World) (B : Nat) (hB : B ≤ w.heap.size) : OwnS (w.alloc (.cells #[] 9)) B (.slice (some ⟨w.heap.size, 0, none⟩) 0 0) [] := by
  refine ⟨rfl, .inr ⟨w.heap.size, 0, #[], rfl, hB, ?_, Nat.le_refl _, by unfold maxLen; omega, rfl, rfl⟩⟩
  unfold World.alloc
  simp

/-- 'append(l, ss...)'. -/
theorem wpList_spreadS {ops : Array Oper} {rest : List Oper} {o : Oper} {a : Act} {w : World} {Q : Exit → Act → World → Prop} (hgd : o.guard = none) (s x : Operand)
    (ho : o.op = .call { callee := .builtin .append, args := #[s, x], argTypes := #[25, 25] }) (B : Nat) (v : Value) (l ss : List (List UInt8)) (ad : Option Addr) (c : Nat) (hs : a.eval s = v) (hown : OwnS w B v l) (hl : l.length + ss.length < 1000000000000)
    (hx : a.eval x = .slice ad ss.length c) (hst : StrsAt w ad ss) (hn : ad = none → c = 0) (hB : B ≤ w.heap.size)
    (h : ∀ v' w', OwnS w' B v' (l ++ ss) → Below B w w' → wpList Tryd.prog ops Q rest (a.put o.dst v') w') :
    wpList Tryd.prog ops Q (o :: rest) a w := by
  obtain ⟨i, hq, h1, h2, h3⟩ := info_parts infoStr
  cases ad with
  | none =>
    have he : ss = [] := by
      cases ss with
      | nil => rfl
      | cons q qs => obtain ⟨b, o', hno, _⟩ := hst 0 (by simp); cases hno
    subst he
    obtain rfl := hn rfl
    refine wpList_append_own_none hgd s x 25 ho B 9 i 1 Tryd.underlying25 hq v l.length (l.map S) hs hown hx ?_
    exact h v w (by rwa [List.append_nil]) (Below.refl _ _)
  | some ad =>
    refine wpList_append_own _ hgd s x 25 ho B 9 i (.string ByteArray.empty) 1 16 Tryd.underlying25 hq h1 h2 h3 rfl (by decide) v l.length (l.map S) hs hown
      ad ss.length c (ss.map S) hx (by simp) ?_ ?_ ?_ ?_ hB ?_
    · intro j u hj
      have hj' : j < ss.length := by
        rcases Nat.lt_or_ge j ss.length with h | h
        · exact h
        · rw [List.getElem?_eq_none (by simpa using h)] at hj; cases hj
      obtain ⟨b, o', e, _, hc⟩ := hst j hj'
      cases e
      have : u = S ss[j] := by simpa [hj'] using hj.symm
      rw [this]
      have e2 : Addr.add ⟨b, o', none⟩ j = ⟨b, o' + j, none⟩ := by
        unfold Addr.add
        split
        · rename_i h; subst h; rfl
        · rfl
      rw [e2]
      exact hc
    · intro u hu
      obtain ⟨q, _, rfl⟩ := List.mem_map.1 hu
      rfl
    · unfold maxLen; omega
    · omega
    · intro v' w' h1 h2 _
      refine h v' w' ?_ ?_
      · unfold OwnS
        simpa using h1
      · exact (Below.refl B w).grown h2 hB (fun k hk => (World.ownsRow.lt hown k hk).1)
end Go.Proofs.YtmfabbncoekjhaaDoor
