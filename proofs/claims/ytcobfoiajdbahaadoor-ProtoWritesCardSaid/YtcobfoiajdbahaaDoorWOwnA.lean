/- Laws for the walks: a slice of structs that the call owns, and another slice put behind it. -/
import Derived.Test.YtcobfoiajdbahaaDoorWOwnR2
namespace Go.Proofs.YtcobfoiajdbahaaDoor
open Go.RowKit

section
variable {α : Type} {e : TypeId} {k : Nat} {cs : α → List Value} {w w' : World} {B : Nat} {v : Value} {l : List α}
theorem KeptT.refl (e : TypeId) (w : World) : KeptT e w w := fun _ _ _ _ _ h => h
theorem wp_appR {P : Program} {o : Oper} {a : Act} {K : Act → World → Prop} {Q : Exit → Act → World → Prop} (s x : Operand) (t : TypeId)
    (ho : o.op = .call { callee := .builtin .append, args := #[s, x], argTypes := #[t, t] })
    (i : TypeInfo) (z : Value) (bytes : Nat) (ht : P.underlying t = some (.slice e)) (hi : P.info? e = some i) (hz : i.zero = some z)
    (hsize : i.size = k) (hby : i.bytes = bytes) (hzs : z.cells.size = k) (hsz : 0 < k) (hk : ∀ x, (cs x).length = k) (hone : ∀ x, ∀ u ∈ cs x, u.oneCell' = true)
    (m : List α) (hs : a.eval s = v) (hown : OwnR e k cs w B v l) (hl : l.length + m.length ≤ 1000000) (hbb : bytes ≤ 100000)
    (b : Option Addr) (n c : Nat) (hx : a.eval x = .slice b n c) (hn : n = m.length) (hm : RowsAt k cs w b m) (hB : B ≤ w.heap.size)
    (h : ∀ v' w', OwnR e k cs w' B v' (l ++ m) → Below B w w' → KeptT e w w' → K (a.put o.dst v') w') : Oper.wp P o a w K Q := by
  subst hn
  cases b with
  | none =>
    obtain rfl : m = [] := by
      cases m with
      | nil => rfl
      | cons y r => obtain ⟨b, o, hb, _⟩ := hm 0 (by simp); cases hb
    have hrun : (Builtin.append_ #[t, t] o.type #[v, .slice none 0 c]).run P w = .ok v w := by
      rcases hown.2 with ⟨rfl, hn⟩ | ⟨g, cap, cur, rfl, _, _, hnc, _⟩
      · rw [hn] at *
        simp [Builtin.append_, run_underlying ht, sizeOf, typeInfo, hi, Builtin.lenOf, Builtin.firstCells]
      · simp [Builtin.append_, run_underlying ht, sizeOf, typeInfo, hi, Builtin.lenOf, Builtin.firstCells, hnc, storeCells]
    unfold Oper.wp execOp
    simp only [ho, resolve, invoke, builtin, Sem.run_bind, Sem.run_pure, Result.andThen_ok, List.map_toArray, List.map_cons, List.map_nil, hs, hx, List.length_nil, hrun]
    exact h v w (by rw [List.append_nil]; exact hown) (Below.refl _ _) (KeptT.refl _ _)
  | some ad =>
    refine wp_append_own _ s x t ho B e i z k bytes ht hi hz hsize hby hzs hsz v l.length (l.flatMap cs) hs hown ad m.length c (m.flatMap cs) hx (by rw [flat_len k cs hk]) ?_ ?_ (by unfold maxLen; omega) ?_ hB ?_
    · intro j u hj
      have hlt : j < m.length * k := by
        rw [← flat_len k cs hk]
        rcases Nat.lt_or_ge j (m.flatMap cs).length with h | h
        · exact h
        · rw [List.getElem?_eq_none h] at hj; cases hj
      have hd : j / k < m.length := Nat.div_lt_of_lt_mul (by rw [Nat.mul_comm]; exact hlt)
      have hmod : j % k < k := Nat.mod_lt _ hsz
      have hjk : j / k * k + j % k = j := by rw [Nat.mul_comm]; exact Nat.div_add_mod j k
      obtain ⟨b, o, hb, hlt', hc⟩ := hm (j / k) hd
      injection hb with hb
      subst hb
      have e1 : (⟨b, o, none⟩ : Addr).add j = ⟨b, o + j, none⟩ := by
        unfold Addr.add
        split
        · simp_all
        · rfl
      rw [e1]
      have := hc (j % k) hmod
      rw [Nat.add_assoc, hjk] at this
      rw [this, ← flat_at k cs hk m (j / k) (j % k) hd hmod, hjk, hj]
    · intro u hu
      obtain ⟨y, _, hy⟩ := List.mem_flatMap.1 hu
      exact hone y u hy
    · have : (l.length + m.length) * bytes ≤ 1000000 * 100000 := Nat.mul_le_mul hl hbb
      omega
    · intro v' w' h1 h2 _
      refine h v' w' ?_ ?_ ?_
      · unfold OwnR
        simpa using h1
      · exact (Below.refl B w).grown h2 hB (fun q hq => (World.ownsRow.lt hown q hq).1)
      · intro b t' c' f' ht' hb
        have hlt : b < w.heap.size := by
          rcases Nat.lt_or_ge b w.heap.size with hh | hh
          · exact hh
          · rw [Array.getElem?_eq_none hh] at hb; cases hb
        exact (h2.block b hlt (fun e => hown.ne ht' hb e.symm)).trans hb
/-- 'append(l, m...)'. -/
theorem wpList_appR {P : Program} {ops : Array Oper} {rest : List Oper} {o : Oper} {a : Act} {Q : Exit → Act → World → Prop} (hgd : o.guard = none) (s x : Operand) (t : TypeId)
    (ho : o.op = .call { callee := .builtin .append, args := #[s, x], argTypes := #[t, t] })
    (i : TypeInfo) (z : Value) (bytes : Nat) (ht : P.underlying t = some (.slice e)) (hi : P.info? e = some i) (hz : i.zero = some z)
    (hsize : i.size = k) (hby : i.bytes = bytes) (hzs : z.cells.size = k) (hsz : 0 < k) (hk : ∀ x, (cs x).length = k) (hone : ∀ x, ∀ u ∈ cs x, u.oneCell' = true)
    (m : List α) (hs : a.eval s = v) (hown : OwnR e k cs w B v l) (hl : l.length + m.length ≤ 1000000) (hbb : bytes ≤ 100000)
    (b : Option Addr) (n c : Nat) (hx : a.eval x = .slice b n c) (hn : n = m.length) (hm : RowsAt k cs w b m) (hB : B ≤ w.heap.size)
    (h : ∀ v' w', OwnR e k cs w' B v' (l ++ m) → Below B w w' → KeptT e w w' → wpList P ops Q rest (a.put o.dst v') w') :
    wpList P ops Q (o :: rest) a w :=
  wpList_plain hgd fun _ hK => wp_appR s x t ho i z bytes ht hi hz hsize hby hzs hsz hk hone m hs hown hl hbb b n c hx hn hm hB fun v' w' h1 h2 h3 => hK _ _ (h v' w' h1 h2 h3)
theorem step_appR {P : Program} {ops : Array Oper} {o : Oper} {a : Act} {K : Act → World → Prop} {Q : Exit → Act → World → Prop} {E : Prop} (hgd : o.guard = none) (s x : Operand) (t : TypeId)
    (ho : o.op = .call { callee := .builtin .append, args := #[s, x], argTypes := #[t, t] })
    (i : TypeInfo) (z : Value) (bytes : Nat) (ht : P.underlying t = some (.slice e)) (hi : P.info? e = some i) (hz : i.zero = some z)
    (hsize : i.size = k) (hby : i.bytes = bytes) (hzs : z.cells.size = k) (hsz : 0 < k) (hk : ∀ x, (cs x).length = k) (hone : ∀ x, ∀ u ∈ cs x, u.oneCell' = true)
    (m : List α) (hs : a.eval s = v) (hown : OwnR e k cs w B v l) (hl : l.length + m.length ≤ 1000000) (hbb : bytes ≤ 100000)
    (b : Option Addr) (n c : Nat) (hx : a.eval x = .slice b n c) (hn : n = m.length) (hm : RowsAt k cs w b m) (hB : B ≤ w.heap.size)
    (h : ∀ v' w', OwnR e k cs w' B v' (l ++ m) → Below B w w' → KeptT e w w' → K (a.put o.dst v') w') :
    if Region.wanted o (yielded ops a.tmps) = true then Oper.wp P o a w K Q else E := by
  have hw : Region.wanted o (yielded ops a.tmps) = true := by simp [Region.wanted, hgd]
  rw [if_pos hw]
  exact wp_appR s x t ho i z bytes ht hi hz hsize hby hzs hsz hk hone m hs hown hl hbb b n c hx hn hm hB h
/-- A row that is made with the call. -/
theorem OwnR.lit (hk : ∀ x, (cs x).length = k) (l : List α) (A : Array Value) (hA : A = (l.flatMap cs).toArray) (hl : l.length ≤ 1000000) (hB : B ≤ w.heap.size) (g n c : Nat) (hg : g = w.heap.size) (hn : n = l.length) (hc : c = l.length) :
    OwnR e k cs (w.alloc (.cells A e)) B (.slice (some ⟨g, 0, none⟩) n c) l := by
  subst hA hg hn hc
  refine ⟨by rw [flat_len k cs hk], .inr ⟨w.heap.size, l.length, _, rfl, hB, heap_alloc_new w _, Nat.le_refl _, by unfold maxLen; omega, by rw [List.size_toArray, flat_len k cs hk], ?_⟩⟩
  rw [List.take_of_length_le (by rw [flat_len k cs hk]; exact Nat.le_refl _)]
end
end Go.Proofs.YtcobfoiajdbahaaDoor
