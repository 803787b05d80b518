/- Laws for the walks: a slice of structs that the call owns, one appended: what else lies in memory stays. -/
import Derived.Test.YtcobfoiajdbahaaDoorWOwnR
namespace Go.Proofs.YtcobfoiajdbahaaDoor
open Go.RowKit

/-- Whatever block is of another element type is as it was. -/
def KeptT (e : TypeId) (w w' : World) : Prop := ∀ (b : Nat) (t : TypeId) (cs : Array Value) (f : Nat × Nat), t ≠ e → w.heap[b]? = some (.cells cs t f) → w'.heap[b]? = some (.cells cs t f)
section
variable {α : Type} {e : TypeId} {k : Nat} {cs : α → List Value} {w w' : World} {B : Nat} {v : Value} {l : List α}
theorem OwnR.ne (h : OwnR e k cs w B v l) {b : Nat} {t : TypeId} {c : Array Value} {f : Nat × Nat} (ht : t ≠ e) (hb : w.heap[b]? = some (.cells c t f)) : v.ownBlock ≠ some b := by
  intro hh
  obtain ⟨_, ⟨rfl, _⟩ | ⟨g, cap, cur, rfl, _, hg, _⟩⟩ := h
  · cases hh
  · simp only [Value.ownBlock, Option.some.injEq] at hh
    subst hh
    rw [hg] at hb
    injection hb with hb
    injection hb with _ hb
    exact ht hb.symm
theorem OwnR.keptT {e' : TypeId} (h : OwnR e k cs w B v l) (hk : KeptT e' w w') (he : e ≠ e') : OwnR e k cs w' B v l := by
  obtain ⟨h1, h2⟩ := h
  refine ⟨h1, ?_⟩
  rcases h2 with h2 | ⟨g, cap, cur, e1, e2, e3, e4⟩
  · exact .inl h2
  · exact .inr ⟨g, cap, cur, e1, e2, hk _ _ _ _ he e3, e4⟩
theorem step_pushR2 {P : Program} {ops : Array Oper} {o : Oper} {a : Act} {K : Act → World → Prop} {Q : Exit → Act → World → Prop} {E : Prop} (hgd : o.guard = none) (s x : Operand) (t : TypeId)
    (ho : o.op = .call { callee := .builtin .append, args := #[s, x], argTypes := #[t, t] })
    (i : TypeInfo) (z : Value) (bytes : Nat) (ht : P.underlying t = some (.slice e)) (hi : P.info? e = some i) (hz : i.zero = some z)
    (hsize : i.size = k) (hby : i.bytes = bytes) (hzs : z.cells.size = k) (hsz : 0 < k) (hk : ∀ x, (cs x).length = k) (hone : ∀ x, ∀ u ∈ cs x, u.oneCell' = true)
    (c : α) (hs : a.eval s = v) (hown : OwnR e k cs w B v l) (hl : l.length < 100000) (hbb : bytes ≤ 100000)
    (g : Nat) (A : Array Value) (f : Nat × Nat) (hg : w.heap[g]? = some (.cells A e f)) (hA : A = (cs c).toArray)
    (hx : a.eval x = .slice (some ⟨g, 0, none⟩) 1 1) (hB : B ≤ w.heap.size)
    (h : ∀ v' w', OwnR e k cs w' B v' (l ++ [c]) → Below B w w' → KeptT e w w' → K (a.put o.dst v') w') :
    if Region.wanted o (yielded ops a.tmps) = true then Oper.wp P o a w K Q else E := by
  subst hA
  have hw : Region.wanted o (yielded ops a.tmps) = true := by simp [Region.wanted, hgd]
  rw [if_pos hw]
  refine wp_append_own _ s x t ho B e i z k bytes ht hi hz hsize hby hzs hsz v l.length (l.flatMap cs) hs hown
    ⟨g, 0, none⟩ 1 1 (cs c) hx (by rw [hk]; omega) ?_ ?_ ?_ ?_ hB ?_
  · intro j u hj
    have e2 : Addr.add ⟨g, 0, none⟩ j = ⟨g, j, none⟩ := by
      unfold Addr.add
      split
      · rename_i h; subst h; rfl
      · simp
    rw [e2]
    simp only [World.cell?, hg]
    simpa using hj
  · exact hone c
  · unfold maxLen; omega
  · have : (l.length + 1) * bytes ≤ 100000 * 100000 := Nat.mul_le_mul (by omega) hbb
    omega
  · intro v' w' h1 h2 _
    refine h v' w' ?_ ?_ ?_
    · unfold OwnR
      simpa using h1
    · exact (Below.refl B w).grown h2 hB (fun q hq => (World.ownsRow.lt hown q hq).1)
    · intro b t' c' f' ht' hb
      have hlt : b < w.heap.size := by
        rcases Nat.lt_or_ge b w.heap.size with hh | hh
        · exact hh
        · rw [Array.getElem?_eq_none hh] at hb; cases hb
      exact (h2.block b hlt (fun e => hown.ne ht' hb e.symm)).trans hb
end
end Go.Proofs.YtcobfoiajdbahaaDoor
