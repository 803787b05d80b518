/- Laws for the walks: a slice of structs that is made, and its elements written one after another. -/
import Derived.Test.YtnflbgindcejjaaDoorWOwnR
import Derived.Test.YtnflbgindcejjaaDoorWBx
import Derived.Deep.OwnRows
namespace Go.Proofs.YtnflbgindcejjaaDoor
open Go.RowKit

theorem run_make_S {P : Program} (t e : TypeId) (z : Value) (k bytes : Nat) (ht : P.underlying t = some (.slice e)) (hinfo : (P.info? e).map (fun i => (i.zero, i.size, i.bytes)) = some (some z, k, bytes)) (n : Nat) (hbytes : bytes * n ≤ 281474976710656) (h63 : n ≤ 9223372036854775807) (w : World) :
    (Instr.makeSlice t (.int .i64 (n : Int)) (.int .i64 (n : Int))).run P w = .ok (.slice (some ⟨w.heap.size, 0, none⟩) n n) (w.alloc (.cells (madeCells z.cells (n * k)) e)) := by
  obtain ⟨i, hi, hzz⟩ := Option.map_eq_some_iff.1 hinfo
  simp only [Prod.mk.injEq] at hzz
  obtain ⟨hz, hs, hb⟩ := hzz
  have hb' : (i.bytes : Int) * (n : Int) ≤ 281474976710656 := by
    rw [← hb] at hbytes
    have h : ((i.bytes * n : Nat) : Int) ≤ 281474976710656 := by omega
    rwa [Int.natCast_mul] at h
  have hr := run_make (P := P) w t e i z ht hi hz .i64 .i64 n n (by omega) (Int.le_refl _) hb' (by omega)
  simp only [Int.toNat_natCast, hs] at hr
  exact hr
section
variable {α : Type} {k : Nat} {cs : α → List Value}
theorem made_flat (hk : ∀ x, (cs x).length = k) (h0 : 0 < k) (x : α) (n : Nat) : madeCells (cs x).toArray (n * k) = ((List.replicate n x).flatMap cs).toArray := by
  refine Array.ext_getElem? (fun j => ?_)
  by_cases hj : j < n * k
  · have hd : j / k < n := Nat.div_lt_of_lt_mul (by rw [Nat.mul_comm]; exact hj)
    have hm : j % k < k := Nat.mod_lt _ h0
    have hjk : j / k * k + j % k = j := by rw [Nat.mul_comm]; exact Nat.div_add_mod j k
    have h1 := flat_at k cs hk (List.replicate n x) (j / k) (j % k) (by simpa using hd) hm
    rw [hjk] at h1
    have e2 : ((List.replicate n x).flatMap cs).toArray[j]? = ((List.replicate n x).flatMap cs)[j]? := by simp
    rw [e2, h1]
    have hlen := hk x
    simp only [madeCells, Array.getElem?_map, List.getElem_replicate]
    rw [Array.getElem?_eq_getElem (by simpa using hj)]
    simp only [Option.map_some, Array.getElem_range, List.size_toArray, hlen]
    rw [List.getElem?_eq_getElem (by omega)]
    rw [getElem!_pos (cs x).toArray (j % k) (by simp; omega)]
    simp
  · have hl : ((List.replicate n x).flatMap cs).length = n * k := by rw [flat_len k cs hk, List.length_replicate]
    rw [Array.getElem?_eq_none (by rw [size_madeCells]; omega), Array.getElem?_eq_none (by rw [List.size_toArray]; omega)]
/-- A box that holds structs, one behind the other. -/
theorem rows_bx {w : World} {g : Nat} {t : TypeId} {l : List α} (hk : ∀ x, (cs x).length = k) (h : Bx w g t (l.flatMap cs).toArray) : RowsAt k cs w (some ⟨g, 0, none⟩) l := by
  intro i hi
  refine ⟨g, 0, rfl, h.lt, fun j hj => ?_⟩
  rw [h.cell, Nat.zero_add, List.getElem?_toArray, flat_at k cs hk l i j hi hj]
theorem rows_take {w : World} {a : Option Addr} {l : List α} (h : RowsAt k cs w a l) (n : Nat) : RowsAt k cs w a (l.take n) := by
  intro i hi
  have hi' : i < l.length := by rw [List.length_take] at hi; omega
  obtain ⟨b, o, e, hlt, hc⟩ := h i hi'
  refine ⟨b, o, e, hlt, fun j hj => ?_⟩
  rw [hc j hj]
  simp
/-- What stands in one place of a flat row. -/
theorem flat_set_at (hk : ∀ x, (cs x).length = k) (l : List α) (i : Nat) (x : α) : ∀ j, j < l.length * k → ((l.set i x).flatMap cs)[j]? = if j / k = i then (cs x)[j % k]? else (l.flatMap cs)[j]? := by
  intro j hj
  have h0 : 0 < k := by
    rcases Nat.eq_zero_or_pos k with rfl | h
    · simp at hj
    · exact h
  have hd : j / k < l.length := Nat.div_lt_of_lt_mul (by rw [Nat.mul_comm]; exact hj)
  have hm : j % k < k := Nat.mod_lt _ h0
  have hjk : j / k * k + j % k = j := by rw [Nat.mul_comm]; exact Nat.div_add_mod j k
  have h1 := flat_at k cs hk (l.set i x) (j / k) (j % k) (by simpa using hd) hm
  have h2 := flat_at k cs hk l (j / k) (j % k) hd hm
  rw [hjk] at h1 h2
  rw [h1, h2, List.getElem_set]
  by_cases e : j / k = i
  · rw [if_pos e.symm, if_pos e]
  · rw [if_neg (Ne.symm e), if_neg e]
end
/-- A box whose structs of eight cells are written anew, one of them. -/
theorem Bx.put8 {α : Type} {cs : α → List Value} (hk : ∀ x, (cs x).length = 8) {w : World} {g : Nat} {t : TypeId} {l : List α} (h : Bx w g t (l.flatMap cs).toArray) (i : Nat) (hi : i < l.length) (x : α) (v0 v1 v2 v3 v4 v5 v6 v7 : Value) (hx : cs x = [v0, v1, v2, v3, v4, v5, v6, v7]) :
    Bx ((((((((w.setCell ⟨g, i * 8, none⟩ v0).setCell ⟨g, i * 8 + 1, none⟩ v1).setCell ⟨g, i * 8 + 2, none⟩ v2).setCell ⟨g, i * 8 + 3, none⟩ v3).setCell ⟨g, i * 8 + 4, none⟩ v4).setCell ⟨g, i * 8 + 5, none⟩ v5).setCell ⟨g, i * 8 + 6, none⟩ v6).setCell ⟨g, i * 8 + 7, none⟩ v7) g t ((l.set i x).flatMap cs).toArray := by
  have h0 := h.set (i * 8) v0
  have h1 := h0.set (i * 8 + 1) v1
  have h2 := h1.set (i * 8 + 2) v2
  have h3 := h2.set (i * 8 + 3) v3
  have h4 := h3.set (i * 8 + 4) v4
  have h5 := h4.set (i * 8 + 5) v5
  have h6 := h5.set (i * 8 + 6) v6
  have h7 := h6.set (i * 8 + 7) v7
  have e : ((((((((l.flatMap cs).toArray.setIfInBounds (i * 8) v0).setIfInBounds (i * 8 + 1) v1).setIfInBounds (i * 8 + 2) v2).setIfInBounds (i * 8 + 3) v3).setIfInBounds (i * 8 + 4) v4).setIfInBounds (i * 8 + 5) v5).setIfInBounds (i * 8 + 6) v6).setIfInBounds (i * 8 + 7) v7 = ((l.set i x).flatMap cs).toArray := by
    refine Array.ext_getElem? (fun j => ?_)
    have hsz : (l.flatMap cs).length = l.length * 8 := flat_len 8 cs hk l
    have hsz2 : ((l.set i x).flatMap cs).length = l.length * 8 := by rw [flat_len 8 cs hk, List.length_set]
    by_cases hj : j < l.length * 8
    · have hf := flat_set_at hk l i x j hj
      have e2 : ((l.set i x).flatMap cs).toArray[j]? = ((l.set i x).flatMap cs)[j]? := by simp
      have e3 : (l.flatMap cs).toArray[j]? = (l.flatMap cs)[j]? := by simp
      rw [e2, hf, hx]
      clear hf e2 h h0 h1 h2 h3 h4 h5 h6 h7 hsz2
      generalize l.flatMap cs = L at *
      by_cases hji : j / 8 = i
      · rw [if_pos hji]
        have hm : j % 8 < 8 := Nat.mod_lt _ (by omega)
        have hjk : i * 8 + j % 8 = j := by rw [← hji, Nat.mul_comm]; exact Nat.div_add_mod j 8
        generalize j % 8 = r at *
        subst hjk
        match r, hm with
        | 0, _ => simp [List.getElem?_set, hsz]; try omega
        | 1, _ => simp [List.getElem?_set, hsz]; try omega
        | 2, _ => simp [List.getElem?_set, hsz]; try omega
        | 3, _ => simp [List.getElem?_set, hsz]; try omega
        | 4, _ => simp [List.getElem?_set, hsz]; try omega
        | 5, _ => simp [List.getElem?_set, hsz]; try omega
        | 6, _ => simp [List.getElem?_set, hsz]; try omega
        | 7, _ => simp [List.getElem?_set, hsz]; try omega
      · rw [if_neg hji]
        have n0 : ∀ r, r < 8 → i * 8 + r ≠ j := fun r hr he => hji (by omega)
        rw [Array.getElem?_setIfInBounds_ne (n0 7 (by omega)), Array.getElem?_setIfInBounds_ne (n0 6 (by omega)), Array.getElem?_setIfInBounds_ne (n0 5 (by omega)), Array.getElem?_setIfInBounds_ne (n0 4 (by omega)), Array.getElem?_setIfInBounds_ne (n0 3 (by omega)), Array.getElem?_setIfInBounds_ne (n0 2 (by omega)), Array.getElem?_setIfInBounds_ne (n0 1 (by omega)), Array.getElem?_setIfInBounds_ne (show i * 8 ≠ j from n0 0 (by omega)), e3]
    · rw [Array.getElem?_eq_none (by simp [hsz]; omega), Array.getElem?_eq_none (by simp [hsz2]; omega)]
  rw [e] at h7
  exact h7
end Go.Proofs.YtnflbgindcejjaaDoor
