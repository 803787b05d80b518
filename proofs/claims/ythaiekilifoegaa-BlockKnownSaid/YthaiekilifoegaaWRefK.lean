/- The walks of the document's Add, four, Bytes, Seek for blocks. -/
import Derived.Test.YthaiekilifoegaaWOwnA
import Derived.Test.YthaiekilifoegaaWBld
import Derived.Test.YthaiekilifoegaaWShared
import Derived.Test.YthaiekilifoegaaWTextsR
import Derived.Test.YthaiekilifoegaaWInv
import Derived.Test.YthaiekilifoegaaWFin
namespace Go.Proofs.Ythaiekilifoegaa
open Go.RowKit
set_option linter.unusedVariables false
set_option linter.unusedSimpArgs false

def enCells (e : P.En) : List Value := [S e.k, S e.v]
theorem enCells_len (e : P.En) : (enCells e).length = 2 := rfl
theorem enCells_one (e : P.En) : ∀ u ∈ enCells e, u.oneCell' = true := by
  intro u hu
  simp only [enCells, List.mem_cons, List.not_mem_nil, or_false] at hu
  rcases hu with rfl | rfl <;> rfl
abbrev OwnEns (w : World) (B : Nat) (v : Value) (l : List P.En) : Prop := OwnR 52 2 enCells w B v l
abbrev EnsAt (w : World) (a : Option Addr) (l : List P.En) : Prop := RowsAt 2 enCells w a l
theorem infoEn : (Try.prog.info? 52).map (fun i => (i.zero, i.size, i.bytes)) = some (some (.agg #[S [], S []]), 2, 32) := by kernel_rfl
theorem wpList_appEns {ops : Array Oper} {rest : List Oper} {o : Oper} {a : Act} {w : World} {Q : Exit → Act → World → Prop} (hgd : o.guard = none) (s x : Operand)
    (ho : o.op = .call { callee := .builtin .append, args := #[s, x], argTypes := #[40, 40] }) (B : Nat) (v : Value) (l m : List P.En) (hs : a.eval s = v) (hown : OwnEns w B v l) (hl : l.length + m.length ≤ 1000000)
    (b : Option Addr) (n c : Nat) (hx : a.eval x = .slice b n c) (hn : n = m.length) (hm : EnsAt w b m) (hB : B ≤ w.heap.size)
    (h : ∀ v' w', OwnEns w' B v' (l ++ m) → Below B w w' → KeptT 52 w w' → wpList Try.prog ops Q rest (a.put o.dst v') w') :
    wpList Try.prog ops Q (o :: rest) a w := by
  obtain ⟨i, hq, h1, h2, h3⟩ := info_three infoEn
  exact wpList_appR hgd s x 40 ho i _ 32 Try.underlying40 hq h1 h2 h3 rfl (by decide) enCells_len enCells_one m hs hown hl (by decide) b n c hx hn hm hB h
theorem ens_at {w : World} {a : Option Addr} {l : List P.En} (h : EnsAt w a l) (i : Nat) (hi : i < l.length) : ∃ b o, a = some ⟨b, o, none⟩ ∧ b < w.heap.size ∧ w.cell? ⟨b, o + i * 2, none⟩ = some (S (P.keyAt l i)) ∧ w.cell? ⟨b, o + i * 2 + 1, none⟩ = some (S (P.valAt l i)) := by
  obtain ⟨b, o, rfl, hlt, hc⟩ := h i hi
  have h0 := hc 0 (by decide)
  have h1 := hc 1 (by decide)
  rw [P.keyAt_get l i hi, P.valAt_get l i hi]
  rw [Nat.add_zero] at h0
  exact ⟨b, o, rfl, hlt, h0, h1⟩

/-- What Add gives back. -/
def RAddP (l : List P.En) (k v : List UInt8) (e : Ending) (w : World) : Prop := ∃ a c, e = .returned (.tuple #[.slice a (P.addL l k v).length c, .int .i64 (P.addE l.length (P.lastK l) k v)]) ∧ EnsAt w a (P.addL l k v)
set_option maxRecDepth 100000 in
set_option maxHeartbeats 4000000 in
theorem refAdd_long (l : List P.En) (a : Option Addr) (n c : Nat) (k v : List UInt8) (w : World) (hk : k.length ≤ 1000000000) (hv : v.length ≤ 1000000000) (h : 1024 < k.length ∨ 1024 < v.length) :
    Calls Try.prog 19 #[.slice a n c, S k, S v] w fun e w' => e = .returned (.tuple #[.slice a n c, .int .i64 3]) ∧ Below w.heap.size w w' := by
  by_cases h1 : 1024 < k.length
  · go_enter Try.func19, Try.ntmps19
    go_wp2
    go_ret2
    exact ⟨rfl, Below.refl _ _⟩
  · have h2 : 1024 < v.length := h.resolve_left h1
    go_enter Try.func19, Try.ntmps19
    go_wp2
    go_ret2
    exact ⟨rfl, Below.refl _ _⟩
set_option maxRecDepth 100000 in
set_option maxHeartbeats 4000000 in
theorem refAdd_low (l : List P.En) (a : Option Addr) (c : Nat) (k v : List UInt8) (w : World) (hk : ¬ 1024 < k.length) (hv : ¬ 1024 < v.length) (hp : EnsAt w a l) (hll : l.length ≤ 1000000) (hl : 0 < l.length) (hlo : Op.bytesLess (P.lastK l) k = false) :
    Calls Try.prog 19 #[.slice a l.length c, S k, S v] w fun e w' => e = .returned (.tuple #[.slice a l.length c, .int .i64 1]) ∧ Below w.heap.size w w' := by
  obtain ⟨b, o, rfl, hb, c0, _⟩ := ens_at hp (l.length - 1) (by omega)
  have hlk : P.keyAt l (l.length - 1) = P.lastK l := rfl
  rw [hlk] at c0
  obtain ⟨m, hm⟩ : ∃ m, l.length = m + 1 := ⟨l.length - 1, by omega⟩
  rw [hm] at c0 hll ⊢
  rw [Nat.add_sub_cancel] at c0
  generalize P.lastK l = lk at *
  have hpos : 0 < m + 1 := by omega
  have hpi : (0 : Int) < (m : Int) + 1 := by omega
  have hm1 : (m : Int) + 1 - 1 = (m : Int) := by omega
  clear hm hp hl
  go_enter Try.func19, Try.ntmps19
  go_wp2
  go_ret2
  exact ⟨rfl, Below.refl _ _⟩
set_option maxRecDepth 100000 in
set_option maxHeartbeats 4000000 in
theorem refAdd_ok (l : List P.En) (a : Option Addr) (c : Nat) (k v : List UInt8) (w : World) (hk : ¬ 1024 < k.length) (hv : ¬ 1024 < v.length) (hp : EnsAt w a l) (hll : l.length ≤ 900000) (hlo : 0 < l.length → Op.bytesLess (P.lastK l) k = true) :
    Calls Try.prog 19 #[.slice a l.length c, S k, S v] w fun e w' => (∃ v', e = .returned (.tuple #[v', .int .i64 0]) ∧ OwnEns w' w.heap.size v' (l ++ [⟨k, v⟩])) ∧ Below w.heap.size w w' := by
  have hO := Lib.hid (show OwnEns (w.alloc (.cells #[] 52)) w.heap.size (.slice (some ⟨w.heap.size, 0, none⟩) 0 0) [] from OwnR.lit enCells_len [] #[] rfl (by simp) (Nat.le_refl _) _ _ _ rfl rfl rfl)
  have h0 := Lib.hid ((Below.refl w.heap.size w).alloc (Nat.le_refl _) (.cells #[] 52))
  have HP := Lib.hid hp
  by_cases h0l : 0 < l.length
  · have hlt := hlo h0l
    obtain ⟨b, o, rfl, hb, c0, _⟩ := ens_at hp (l.length - 1) (by omega)
    have hlk : P.keyAt l (l.length - 1) = P.lastK l := rfl
    rw [hlk] at c0
    obtain ⟨m, hm⟩ : ∃ m, l.length = m + 1 := ⟨l.length - 1, by omega⟩
    have Hm := Lib.hid hm
    rw [hm] at c0 ⊢
    rw [Nat.add_sub_cancel] at c0
    have hml : m + 1 ≤ 900000 := by omega
    generalize P.lastK l = lk at *
    have hpos : 0 < m + 1 := by omega
    have hpi : (0 : Int) < (m : Int) + 1 := by omega
    have hm1 : (m : Int) + 1 - 1 = (m : Int) := by omega
    have hll2 := Lib.hid hll
    clear hm hp h0l hlo hll
    go_enter Try.func19, Try.ntmps19
    go_wp2_with (first
    | ((fail_if_success (have := hO1)); at_builtin; go_loud ((refine wpList_appEns (by rfl) _ _ (by rfl) w.heap.size _ [] l (by rfl) hO.out (by have := hll2.out; simp; omega) _ _ _ (by rfl) (by have := Hm.out; omega) (RowsAt.up HP.out h0.out) h0.out.size ?_); intro v1 w1 hO1 hb1 hk1; have hc1 := h0.out.trans hb1; have hc1a := hc1.alloc hc1.size (.cells #[S k, S v] 52); have hO1a := OwnR.alloc hO1 (.cells #[S k, S v] 52); have hr1 := rows_new 2 enCells enCells_len w1 [⟨k, v⟩] #[S k, S v] 52 (by rfl)))
    | (at_builtin; go_loud ((refine wpList_appEns (by rfl) _ _ (by rfl) w.heap.size _ ([] ++ l) [⟨k, v⟩] (by rfl) hO1a (by have := hll2.out; simp; omega) _ _ _ (by rfl) (by rfl) hr1 hc1a.size ?_); intro v2 w2 hO2 hb2 hk2)))
    go_ret2
    exact ⟨⟨v2, rfl, by simpa using hO2⟩, hc1a.trans hb2⟩
  · obtain rfl : l = [] := List.length_eq_zero_iff.1 (by omega)
    clear hp h0l hlo
    go_enter Try.func19, Try.ntmps19
    go_wp2_with (first
    | ((fail_if_success (have := hO1)); at_builtin; go_loud ((refine wpList_appEns (by rfl) _ _ (by rfl) w.heap.size _ [] [] (by rfl) hO.out (by simp) _ _ _ (by rfl) (by rfl) (RowsAt.up HP.out h0.out) h0.out.size ?_); intro v1 w1 hO1 hb1 hk1; have hc1 := h0.out.trans hb1; have hc1a := hc1.alloc hc1.size (.cells #[S k, S v] 52); have hO1a := OwnR.alloc hO1 (.cells #[S k, S v] 52); have hr1 := rows_new 2 enCells enCells_len w1 [⟨k, v⟩] #[S k, S v] 52 (by rfl)))
    | (at_builtin; go_loud ((refine wpList_appEns (by rfl) _ _ (by rfl) w.heap.size _ ([] ++ []) [⟨k, v⟩] (by rfl) hO1a (by simp) _ _ _ (by rfl) (by rfl) hr1 hc1a.size ?_); intro v2 w2 hO2 hb2 hk2)))
    go_ret2
    exact ⟨⟨v2, rfl, by simpa using hO2⟩, hc1a.trans hb2⟩
theorem refAdd_any (l : List P.En) (a : Option Addr) (n c : Nat) (hn : n = l.length) (k v : List UInt8) (w : World) (hk : k.length ≤ 1000000000) (hv : v.length ≤ 1000000000) (hp : EnsAt w a l) (hll : l.length ≤ 900000) :
    Calls Try.prog 19 #[.slice a n c, S k, S v] w fun e w' => RAddP l k v e w' ∧ Below w.heap.size w w' := by
  subst hn
  by_cases hl : 1024 < k.length ∨ 1024 < v.length
  · have he : P.addE l.length (P.lastK l) k v = 3 := by unfold P.addE; rw [if_pos hl]
    have hA : P.addL l k v = l := by unfold P.addL; rw [he]; rfl
    refine (refAdd_long l a _ c k v w hk hv hl).mono ?_
    rintro e w' ⟨rfl, hb⟩
    exact ⟨⟨a, c, by rw [hA, he]; rfl, by rw [hA]; exact hp.up hb⟩, hb⟩
  · by_cases ho : 0 < l.length ∧ Op.bytesLess (P.lastK l) k = false
    · have he : P.addE l.length (P.lastK l) k v = 1 := by unfold P.addE; rw [if_neg hl, if_pos ho]
      have hA : P.addL l k v = l := by unfold P.addL; rw [he]; rfl
      refine (refAdd_low l a c k v w (by omega) (by omega) hp (by omega) ho.1 ho.2).mono ?_
      rintro e w' ⟨rfl, hb⟩
      exact ⟨⟨a, c, by rw [hA, he]; rfl, by rw [hA]; exact hp.up hb⟩, hb⟩
    · have he : P.addE l.length (P.lastK l) k v = 0 := by unfold P.addE; rw [if_neg hl, if_neg ho]
      have hA : P.addL l k v = l ++ [⟨k, v⟩] := by unfold P.addL; rw [he]; rfl
      refine (refAdd_ok l a c k v w (by omega) (by omega) hp hll (fun h0 => by
        cases hb : Op.bytesLess (P.lastK l) k with
        | true => rfl
        | false => exact absurd ⟨h0, hb⟩ ho)).mono ?_
      rintro e w' ⟨⟨v', rfl, hO⟩, hb⟩
      obtain ⟨a2, c2, rfl, hr, _⟩ := hO.is enCells_len
      exact ⟨⟨a2, c2, by rw [hA, he]; rfl, by rw [hA]; exact hr⟩, hb⟩

theorem P.be4 (n : Nat) : P.be 4 n = [P.byt (n / 16777216), P.byt (n / 65536), P.byt (n / 256), P.byt n] := by
  simp only [P.be, List.nil_append, List.cons_append]
  rw [Nat.div_div_eq_div_mul, Nat.div_div_eq_div_mul, Nat.div_div_eq_div_mul]
set_option maxRecDepth 100000 in
set_option maxHeartbeats 4000000 in
theorem four_any (n : Nat) (w : World) (hn : n ≤ 9223372036854775807) :
    Calls Try.prog 33 #[.int .i64 n] w fun e w' => e = .returned (S (P.be 4 n)) ∧ Below w.heap.size w w' := by
  go_enter Try.func33, Try.ntmps33
  go_wp2_with ((with_reducible show wpList _ _ _ (⟨_, .convert 22 9 _, _, _, _, _⟩ :: _) _ _); refine wpList_conv_str 5 5 w.heap.size 0 4 4 (P.be 4 n) (P.be 4 n) (by rfl) Try.underlying22 Try.underlying5 Try.underlying9 (blk_lit (by rfl) (by rw [P.be4]; simp [bytesV, u8V, P.byt_toNat])) (by rw [P.be_length]; omega) (by rw [List.drop_zero, List.take_of_length_le (by rw [P.be_length]; omega)]) ?_)
  go_ret
  exact ⟨rfl, (Below.refl _ _).alloc (Nat.le_refl _) _⟩
end Go.Proofs.Ythaiekilifoegaa
