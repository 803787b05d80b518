/- The rule of the drawn regions by an invariant, where only the edges that bind must point back. -/
import Derived.WalkKit
import Derived.Handy
import Derived.Lib.Hide
import Derived.WalkLawsBesides
import Derived.WalkSpells
import Derived.Test.YtcobfoiajdbahaaDoorPQ
import Derived.Shelf.Strconv.Itoa0
import Derived.Test.YtcobfoiajdbahaaDoorProg
import Derived.Deep.RegionWith
import Derived.Laws.AppendOwn
import Derived.OwnWalk
import Derived.Lib.AppendStr
import Derived.Lib.AppendIntMem
import Derived.Deep.Upon
import Derived.OrdersHeld
import Derived.Deep.RegionHeld
namespace Go.Proofs.YtcobfoiajdbahaaDoor
open Go.RowKit
/-- A string value out of its bytes. -/
abbrev S (l : List UInt8) : Value := .string ⟨l.toArray⟩
/-- Block b holds the bytes l from its beginning on. -/
def BytesAt (w : World) (b : Nat) (l : List UInt8) : Prop := ∀ (j : Nat) (h : j < l.length), w.cell? ⟨b, j, none⟩ = some (.int .u8 (l[j].toNat : Int))
theorem below_drewN {B : Nat} {a w : World} (h : Below B a w) (n : Nat) : Below B a (w.drewN n) := ⟨h.os, h.tape, h.output, h.size, h.block⟩
section
variable {P : Program} {ops : Array Oper} {Q : Exit → Act → World → Prop} {a : Act} {w : World} {rest : List Oper}
theorem conv_bytes (src dst e : TypeId) (l : List UInt8) (hs : P.underlying src = some .string) (hd : P.underlying dst = some (.slice e)) (he : P.underlying e = some (.int .u8)) :
    ∃ (cap : Nat) (w1 : World), (convert src dst (S l)).run P w = .ok (.slice (some ⟨w.heap.size, 0, none⟩) l.length cap) w1 ∧ BytesAt w1 w.heap.size l ∧ Below w.heap.size w w1 ∧ w.heap.size < w1.heap.size := by
  refine ⟨_, _, run_bytes_of_string w src dst e ⟨l.toArray⟩ hs hd he, ?_, ?_, ?_⟩
  · intro j hj
    have h := World.cell?_alloc_mark w.drew (bytesRow ⟨l.toArray⟩ (grownCap w (ByteArray.mk l.toArray).size 0 e)) e ((bytesRow ⟨l.toArray⟩ (grownCap w (ByteArray.mk l.toArray).size 0 e)).size, (bytesRow ⟨l.toArray⟩ (grownCap w (ByteArray.mk l.toArray).size 0 e)).size + 1) j
    rw [World.size_drew] at h
    rw [h, bytesRow_at _ _ _ (by simpa using hj)]
    simp
  · exact ((Below.refl _ _).drew).alloc (Nat.le_refl _) _
  · simp
/-- '[]byte(s)'. -/
theorem wpList_conv_bytes {d : Option Tmp} {ty src dst : TypeId} {pos : String} {aft : Array Edge} {x : Operand} (l : List UInt8) (hx : a.eval x = S l) (e : TypeId)
    (hs : P.underlying src = some .string) (hd : P.underlying dst = some (.slice e)) (he : P.underlying e = some (.int .u8))
    (h : ∀ (cap : Nat) (w1 : World), BytesAt w1 w.heap.size l → Below w.heap.size w w1 → w.heap.size < w1.heap.size →
      wpList P ops Q rest (a.put d (.slice (some ⟨w.heap.size, 0, none⟩) l.length cap)) w1) :
    wpList P ops Q (⟨d, .convert src dst x, ty, pos, aft, none⟩ :: rest) a w := by
  refine wpList_plain rfl fun K hK => ?_
  obtain ⟨cap, w1, hr, h1, h2, h3⟩ := conv_bytes (P := P) (w := w) src dst e l hs hd he
  unfold Oper.wp execOp
  simp only [hx, Sem.run_bind, hr, Result.andThen_ok, Sem.run_pure]
  exact hK _ _ (h cap w1 h1 h2 h3)
end
/-! ### A block of bytes that is known whole -/
def u8V (b : UInt8) : Value := .int .u8 (b.toNat : Int)
def bytesV (l : List UInt8) : Array Value := (l.map u8V).toArray
/-- Block g is just the bytes l, none of them frozen. -/
def Blk (w : World) (g : Nat) (t : TypeId) (l : List UInt8) : Prop := w.heap[g]? = some (.cells (bytesV l) t (0, 0))
theorem Blk.cell {w : World} {g : Nat} {t : TypeId} {l : List UInt8} (h : Blk w g t l) (i : Nat) (hi : i < l.length) : w.cell? ⟨g, i, none⟩ = some (.int .u8 (l[i].toNat : Int)) := by
  unfold Blk at h
  simp [World.cell?, h, bytesV, u8V, hi]
theorem Blk.string {P : Program} {w : World} {g : Nat} {t : TypeId} {l : List UInt8} (h : Blk w g t l) (src dst e : TypeId) (hs : P.underlying src = some (.slice e)) (he : P.underlying e = some (.int .u8)) (hd : P.underlying dst = some .string)
    (off n cap : Nat) (hn : off + n ≤ l.length) : (convert src dst (.slice (some ⟨g, off, none⟩) n cap)).run P w = .ok (S ((l.drop off).take n)) w := by
  have hlen : (((l.drop off).take n).map fun b => (b.toNat : Int)).length = n := by simp; omega
  have hr := run_convert_bytes_arg (P := P) (w := w) src e hs he g off n cap (((l.drop off).take n).map fun b => (b.toNat : Int)) hlen (fun i hi => by
    rw [h.cell (off + i) (by omega)]
    have h1 : off + i < l.length := by omega
    simp [List.getD_eq_getElem?_getD, hi, h1]) dst hd
  rw [hr]
  have e1 : strOfNums (((l.drop off).take n).map fun b => (b.toNat : Int)) = ⟨((l.drop off).take n).toArray⟩ := by
    unfold strOfNums
    congr 2
    rw [List.map_map]
    conv => rhs; rw [← List.map_id ((l.drop off).take n)]
    apply List.map_congr_left
    intro b _
    simp
  rw [e1]
theorem blk_lit {W w1 : World} {cs : Array Value} {t : TypeId} {l : List UInt8} (hW : W.heap = w1.heap.push (.cells cs t)) (h : cs = bytesV l) : Blk W w1.heap.size t l := by
  subst h
  unfold Blk
  rw [hW]
  simp
/-- 'string(b)', b a piece of a block of bytes that is known whole. -/
theorem wpList_conv_str {P : Program} {ops : Array Oper} {Q : Exit → Act → World → Prop} {a : Act} {w : World} {rest : List Oper} {d : Option Tmp} {ty src dst : TypeId} {pos : String} {aft : Array Edge} {x : Operand}
    (e t : TypeId) (g off n cap : Nat) (l r : List UInt8) (hx : a.eval x = .slice (some ⟨g, off, none⟩) n cap)
    (hs : P.underlying src = some (.slice e)) (he : P.underlying e = some (.int .u8)) (hd : P.underlying dst = some .string)
    (hB : Blk w g t l) (hn : off + n ≤ l.length) (hr : (l.drop off).take n = r)
    (h : wpList P ops Q rest (a.put d (S r)) w) : wpList P ops Q (⟨d, .convert src dst x, ty, pos, aft, none⟩ :: rest) a w := by
  refine wpList_plain rfl fun K hK => ?_
  have hrun := hB.string (P := P) src dst e hs he hd off n cap hn
  rw [hr] at hrun
  unfold Oper.wp execOp
  simp only [hx, Sem.run_bind, hrun, Result.andThen_ok, Sem.run_pure]
  exact hK _ _ h
/-! ### A block that holds the bytes l from its beginning on, to be written there -/
end Go.Proofs.YtcobfoiajdbahaaDoor
namespace Go.Proofs
open Go.Shelf
def Tryd.lays129_ren : Go.Shelf.Ren := ⟨fun | 129 => 93 | n => n, fun | 53 => 22 | 3 => 3 | 4 => 4 | 46 => 89 | 5 => 5 | 9 => 9 | n => n, fun | n => n⟩
theorem Tryd.lays129 : Go.Proofs.Lays.n129 Tryd.prog Tryd.lays129_ren := {
  mixed := by kernel_rfl
  f129 := Tryd.func93.trans (congrArg some (by kernel_rfl))
  t3 := Tryd.underlying3
  a3 := Tryd.isAgg3
  z3 := Tryd.sizeOf3
  v3 := Tryd.zeroValue3
  t4 := Tryd.underlying4
  a4 := Tryd.isAgg4
  z4 := Tryd.sizeOf4
  v4 := Tryd.zeroValue4
  t5 := Tryd.underlying5
  a5 := Tryd.isAgg5
  z5 := Tryd.sizeOf5
  v5 := Tryd.zeroValue5
  t9 := Tryd.underlying9
  a9 := Tryd.isAgg9
  z9 := Tryd.sizeOf9
  v9 := Tryd.zeroValue9
  t46 := Tryd.underlying89
  a46 := Tryd.isAgg89
  z46 := Tryd.sizeOf89
  v46 := Tryd.zeroValue89
  t53 := Tryd.underlying22
  a53 := Tryd.isAgg22
  z53 := Tryd.sizeOf22
  v53 := Tryd.zeroValue22 }
/-- bits.Len64: "Len64 returns the minimum number of bits required to represent x; the result is 0 for x == 0.": IT RETURNS 'Lib.bitLen x'; the world is as it was. ('h0', 'h1': x is a uint64.) (LAID: no walk: one application.) -/
theorem Tryd.bits_Len64 (x : Int) (w : World) (h0 : 0 ≤ x) (h1 : x ≤ 18446744073709551615) :
    Calls Tryd.prog 93 #[.int .u64 x] w fun e w' => e = .returned (.int .i64 (Lib.bitLen x.toNat)) ∧ w' = w := Any.bits_Len64 Tryd.lays129 x w h0 h1
end Go.Proofs
namespace Go.Proofs.YtcobfoiajdbahaaDoor
open Go.RowKit
set_option linter.unusedVariables false
/-- A 64-bit number. -/
abbrev V64 (n : Nat) : Value := .int .u64 (n : Int)
theorem len_bytes (k : Nat) (h : k ≤ 64) : wrap64 ((wrap64 ((k : Int) + 7)).tdiv 8) = (((k + 7) / 8 : Nat) : Int) := by
  rw [IntWalk.wrap64_in ((k : Int) + 7) (by omega), Int.tdiv_eq_ediv_of_nonneg (by omega), IntWalk.wrap64_in _ (by omega)]
  omega
set_option maxRecDepth 100000 in
theorem behind_any (n : Nat) (hn : n < 18446744073709551616) (w : World) :
    Calls Tryd.prog 95 #[V64 n] w fun e w' => e = .returned (.int .i64 (P.behind n)) ∧ Below w.heap.size w w' := by
  have Hd := Lib.hid (P.dig_len n hn)
  have Hl := Lib.hid (Lib.bitLen_le n 64 (by omega) (by omega))
  by_cases h8 : n < 248
  · have Hb := Lib.hid (show P.behind n = 0 by unfold P.behind; rw [if_pos h8])
    go_enter Tryd.func95, Tryd.ntmps95
    go_wp2
    go_ret
    exact ⟨by rw [Hb.out]; rfl, Below.refl _ _⟩
  · have Hb := Lib.hid (show P.behind n = P.dig n by unfold P.behind; rw [if_neg h8])
    go_enter Tryd.func95, Tryd.ntmps95
    go_wp2_with (go_at_call 93; refine (Tryd.bits_Len64 _ _ (by omega) (by omega)).mono ?_; rintro e w1 ⟨rfl, rfl⟩)
    go_ret
    exact ⟨by rw [Hb.out, ← Hd.out, ← len_bytes _ Hl.out]; rfl, Below.refl _ _⟩
theorem big_next (l : List UInt8) (c : UInt8) (h : l.length ≤ 7) : bits .or .u64 (IntKind.u64.wrap ((P.val l : Int) * 256)) (IntKind.u64.wrap (c.toNat : Int)) = (P.val (l ++ [c]) : Int) := by
  have h1 := P.val_lt l
  have h2 : 256 ^ l.length ≤ 256 ^ 7 := Nat.pow_le_pow_right (by omega) h
  have hc := c.toNat_lt
  have h3 : P.val l * 256 ||| c.toNat = 256 * P.val l + c.toNat := by
    have h := Nat.two_pow_add_eq_or_of_lt (i := 8) (b := c.toNat) (by omega) (P.val l)
    rw [show P.val l * 256 = 2 ^ 8 * P.val l by omega, ← h]
  rw [IntKind.wrap_u64, IntKind.wrap_u64, show ((P.val l : Int) * 256) % 18446744073709551616 = ((P.val l * 256 : Nat) : Int) by omega, show (c.toNat : Int) % 18446744073709551616 = ((c.toNat : Nat) : Int) by omega, P.val_snoc, ← h3]
  exact u64_or_nat _ _ (by omega) (by omega)
theorem str_take (s : List UInt8) (m : Nat) : (ByteArray.mk s.toArray).extract 0 m = ⟨(s.take m).toArray⟩ := by
  rw [ByteArray.extract_mk]
  simp
attribute [local go_sem] str_take
set_option maxRecDepth 100000 in
set_option maxHeartbeats 1000000 in
theorem big_any (s : List UInt8) (k : Int) (w : World) (hs : s.length ≤ 9223372036854775807) (hk0 : -9223372036854775808 ≤ k) (hk1 : k ≤ 9223372036854775807) :
    Calls Tryd.prog 81 #[S s, .int .i64 k] w fun e w' => e = .returned (.tuple #[V64 (P.bigNum s k), .bool (P.bigOk s k)]) ∧ Below w.heap.size w w' := by
  by_cases hok : 1 ≤ k ∧ k ≤ 8 ∧ k ≤ s.length
  · have Ho := Lib.hid (show P.bigOk s k = true from decide_eq_true hok)
    have Hn := Lib.hid (show P.bigNum s k = P.val (s.take k.toNat) by unfold P.bigNum; rw [Ho.out]; rfl)
    obtain ⟨k1, k2, k3⟩ := hok
    obtain ⟨m, rfl⟩ : ∃ m : Nat, k = (m : Int) := ⟨k.toNat, by omega⟩
    have hml : (s.take m).length = m := by simp; omega
    go_enter Tryd.func81, Tryd.ntmps81
    go_wp2_with ((with_reducible show wpList _ _ _ (⟨_, .convert 9 85 _, _, _, _, _⟩ :: _) _ _); refine wpList_conv_bytes (s.take m) (by rfl) 5 Tryd.underlying9 Tryd.underlying85 Tryd.underlying5 ?_; intro cap w1 hB1 hb1 hz1)
    have Hv := Lib.hid (show ∀ (j : Nat) (hj : j < (s.take m).length), bits .or .u64 (IntKind.u64.wrap ((P.val ((s.take m).take j) : Int) * 256)) (IntKind.u64.wrap ((s.take m)[j].toNat : Int)) = (P.val ((s.take m).take (j + 1)) : Int) from fun j hj => by
      rw [List.take_succ_eq_append_getElem hj]
      exact big_next _ _ (by simp; omega))
    have Ht := Lib.hid (show P.bigNum s (m : Int) = P.val ((s.take m).take m) by rw [Hn.out, List.take_take, Nat.min_self]; rfl)
    clear Hn
    generalize s.take m = q at *
    have hm8 : m ≤ 8 := by omega
    go_loop [4, 25] (fun n i => ∃ j : Nat, j ≤ m ∧ i = .int .i64 j ∧ n = V64 (P.val (q.take j))) (fun _ i => m - (intOf i).toNat)
    case atStart => exact ⟨0, by omega, rfl, rfl⟩
    case round =>
      obtain ⟨j, hj, rfl, rfl⟩ := hrel
      by_cases hjt : j < m
      · have hcj := hB1 j (by omega)
        have Hnx := Lib.hid (Hv.out j (by omega))
        generalize hw1 : P.val (q.take j) = n0 at *
        go_wp2
        go_round
        case rel => exact ⟨j + 1, by omega, by go_num, congrArg (Value.int .u64) Hnx.out⟩
        case measure => simp [intOf]; omega
      · obtain rfl : j = m := by omega
        go_wp2
        go_ret2
        exact ⟨by rw [Ho.out, Ht.out]; rfl, hb1⟩
  · have Ho := Lib.hid (show P.bigOk s k = false from decide_eq_false hok)
    have Hn := Lib.hid (show P.bigNum s k = 0 by unfold P.bigNum; rw [Ho.out]; rfl)
    by_cases hk : k < 1
    · go_enter Tryd.func81, Tryd.ntmps81
      go_wp2
      go_ret2
      exact ⟨by rw [Ho.out, Hn.out]; rfl, Below.refl _ _⟩
    · by_cases hk8 : 8 < k
      · go_enter Tryd.func81, Tryd.ntmps81
        go_wp2
        go_ret2
        exact ⟨by rw [Ho.out, Hn.out]; rfl, Below.refl _ _⟩
      · have hk3 : (s.length : Int) < k := by omega
        clear hok
        go_enter Tryd.func81, Tryd.ntmps81
        go_wp2
        go_ret2
        exact ⟨by rw [Ho.out, Hn.out]; rfl, Below.refl _ _⟩
theorem u64_step (n c r : Nat) (h : 256 * (n : Int) + (c : Int) = (r : Int)) (hr : r < 18446744073709551616) : IntKind.u64.wrap (IntKind.u64.wrap (256 * (n : Int)) + IntKind.u64.wrap (c : Int)) = (r : Int) := by
  rw [IntKind.wrap_u64, IntKind.wrap_u64, IntKind.wrap_u64]
  omega
theorem refBig_next (l : List UInt8) (c : UInt8) (h : l.length ≤ 7) : 256 * (P.val l : Int) + (c.toNat : Int) = (P.val (l ++ [c]) : Int) ∧ P.val (l ++ [c]) < 18446744073709551616 :=
  ⟨by rw [P.val_snoc]; omega, P.val_lt8 _ (by simp; omega)⟩
set_option maxRecDepth 100000 in
set_option maxHeartbeats 1000000 in
theorem refReadBig_any (s : List UInt8) (k : Int) (w : World) (hs : s.length ≤ 9223372036854775807) (hk0 : -9223372036854775808 ≤ k) (hk1 : k ≤ 9223372036854775807) :
    Calls Tryd.prog 56 #[S s, .int .i64 k] w fun e w' => e = .returned (.tuple #[V64 (P.bigNum s k), .bool (P.bigOk s k)]) ∧ Below w.heap.size w w' := by
  by_cases hok : 1 ≤ k ∧ k ≤ 8 ∧ k ≤ s.length
  · have Ho := Lib.hid (show P.bigOk s k = true from decide_eq_true hok)
    have Hn := Lib.hid (show P.bigNum s k = P.val (s.take k.toNat) by unfold P.bigNum; rw [Ho.out]; rfl)
    obtain ⟨k1, k2, k3⟩ := hok
    obtain ⟨m, rfl⟩ : ∃ m : Nat, k = (m : Int) := ⟨k.toNat, by omega⟩
    have hm8 : m ≤ 8 := by omega
    have hml : m ≤ s.length := by omega
    have Hv := Lib.hid (show ∀ (j : Nat) (hj : j < m), P.val (s.take j) < 18446744073709551616 ∧ 256 * (P.val (s.take j) : Int) + ((s[j]'(by omega)).toNat : Int) = (P.val (s.take (j + 1)) : Int) ∧ P.val (s.take (j + 1)) < 18446744073709551616 from fun j hj => by
      rw [List.take_succ_eq_append_getElem (by omega)]
      exact ⟨P.val_lt8 _ (by simp; omega), refBig_next _ _ (by simp; omega)⟩)
    go_enter Tryd.func56, Tryd.ntmps56
    go_wp2
    go_loop [6, 7] (fun n i => ∃ j : Nat, j ≤ m ∧ i = .int .i64 j ∧ n = V64 (P.val (s.take j))) (fun _ i => m - (intOf i).toNat)
    case atStart => exact ⟨0, by omega, rfl, rfl⟩
    case round =>
      obtain ⟨j, hj, rfl, rfl⟩ := hrel
      by_cases hjt : j < m
      · have hjs : j < s.length := by omega
        have hc := (s[j]).toNat_lt
        have Hnx := Lib.hid (Hv.out j hjt)
        have Hsm := Lib.hid (show ((ByteArray.mk s.toArray)[j]'(by show j < s.toArray.size; simpa using hjs)).toNat = (s[j]).toNat by rfl)
        generalize P.val (s.take j) = n0 at *
        go_wp2
        go_round
        case rel => exact ⟨j + 1, by omega, by go_num, congrArg (Value.int .u64) (u64_step n0 (s[j]).toNat _ Hnx.out.2.1 Hnx.out.2.2)⟩
        case measure => simp [intOf]; omega
      · obtain rfl : j = m := by omega
        go_wp2
        go_ret2
        exact ⟨by rw [Ho.out, Hn.out]; rfl, Below.refl _ _⟩
  · have Ho := Lib.hid (show P.bigOk s k = false from decide_eq_false hok)
    have Hn := Lib.hid (show P.bigNum s k = 0 by unfold P.bigNum; rw [Ho.out]; rfl)
    by_cases hk : k < 1
    · go_enter Tryd.func56, Tryd.ntmps56
      go_wp2
      go_ret2
      exact ⟨by rw [Ho.out, Hn.out]; rfl, Below.refl _ _⟩
    · by_cases hk8 : 8 < k
      · go_enter Tryd.func56, Tryd.ntmps56
        go_wp2
        go_ret2
        exact ⟨by rw [Ho.out, Hn.out]; rfl, Below.refl _ _⟩
      · have hk3 : (s.length : Int) < k := by omega
        clear hok
        go_enter Tryd.func56, Tryd.ntmps56
        go_wp2
        go_ret2
        exact ⟨by rw [Ho.out, Hn.out]; rfl, Below.refl _ _⟩
end Go.Proofs.YtcobfoiajdbahaaDoor
namespace Go.Proofs.YtcobfoiajdbahaaDoor
open Go.RowKit
/-- The slice value v owns the bytes l. -/
def Own (w : World) (B : Nat) (v : Value) (l : List UInt8) : Prop := w.ownsRow B 5 1 v l.length (l.map u8V)
theorem own_nil (w : World) (B : Nat) : Own w B (.slice none 0 0) [] := World.ownsRow_nil w B _ 1
theorem Own.alloc {w : World} {B : Nat} {v : Value} {l : List UInt8} (h : Own w B v l) (o : Obj) : Own (w.alloc o) B v l := World.ownsRow.alloc h o
theorem below_owned {a w w' : World} {B : Nat} {v : Value} {l : List UInt8} (hb : Below B a w) (h : Own w B v l) (hB : B ≤ w.heap.size) (hg : w.grownBy w' v.ownBlock) : Below B a w' :=
  hb.grown hg hB (fun k hk => (World.ownsRow.lt h k hk).1)
theorem info8 : (Tryd.prog.info? 5).map (fun i => (i.zero, i.size, i.bytes)) = some (some (.int .u8 0), 1, 1) := by kernel_rfl
/-- 'append(b, c)': the new byte lies in the last block. -/
theorem wpList_push {ops : Array Oper} {rest : List Oper} {o : Oper} {a : Act} {w : World} {Q : Exit → Act → World → Prop} (hgd : o.guard = none) (s x : Operand)
    (ho : o.op = .call { callee := .builtin .append, args := #[s, x], argTypes := #[85, 85] }) (B : Nat) (v : Value) (l : List UInt8) (c : UInt8) (k : Int) (hk : k = (c.toNat : Int)) (hs : a.eval s = v) (hown : Own w B v l) (hl : l.length < 140737488355328)
    (hx : a.eval x = .slice (some ⟨w.heap.size, 0, none⟩) 1 1) (hB : B ≤ w.heap.size)
    (h : ∀ v' w', Own w' B v' (l ++ [c]) → (w.alloc (.cells #[.int .u8 k] 5)).grownBy w' v.ownBlock → wpList Tryd.prog ops Q rest (a.put o.dst v') w') :
    wpList Tryd.prog ops Q (o :: rest) a (w.alloc (.cells #[.int .u8 k] 5)) := by
  subst hk
  have hi := info8
  cases hq : Tryd.prog.info? 5 with
  | none => rw [hq] at hi; cases hi
  | some i =>
    rw [hq] at hi
    simp only [Option.map_some, Option.some.injEq, Prod.mk.injEq] at hi
    refine wpList_append_own _ hgd s x 85 ho B 5 i (.int .u8 0) 1 1 Tryd.underlying85 hq hi.1 hi.2.1 hi.2.2 rfl (by decide) v l.length (l.map u8V) hs (World.ownsRow.alloc hown _)
      ⟨w.heap.size, 0, none⟩ 1 1 [u8V c] hx rfl ?_ ?_ ?_ ?_ ?_ ?_
    · intro j u hj
      match j, hj with
      | 0, hj => simp at hj; subst hj; simp [Addr.add, u8V]
    · intro u hu; simp at hu; subst hu; rfl
    · unfold maxLen; omega
    · omega
    · simp; omega
    · intro v' w' h1 h2 _
      refine h v' w' ?_ h2
      unfold Own
      simpa using h1
set_option maxRecDepth 10000 in
theorem Own.string {w : World} {B : Nat} {v : Value} {l : List UInt8} (h : Own w B v l) : (convert 85 9 v).run Tryd.prog w = .ok (S l) w := by
  obtain ⟨hlen, h⟩ := h
  rcases h with ⟨rfl, h0⟩ | ⟨g, cap, cur, rfl, _, hg, hnc, _, _, htake⟩
  · obtain rfl : l = [] := List.length_eq_zero_iff.1 h0
    have hr := run_convert_bytes_nil (P := Tryd.prog) (w := w) 85 5 Tryd.underlying85 Tryd.underlying5 0 0
    exact hr 9 Tryd.underlying9
  · have hr := run_convert_bytes_arg (P := Tryd.prog) (w := w) 85 5 Tryd.underlying85 Tryd.underlying5 g 0 l.length cap (l.map fun b => (b.toNat : Int)) (by simp) (fun i hi => by
      rw [Nat.zero_add]
      have : cur.toList[i]? = some (u8V l[i]) := by
        have := congrArg (fun q : List Value => q[i]?) htake
        simp only [List.getElem?_take, Nat.mul_one] at this
        rw [if_pos hi] at this
        rw [this]
        simp [hi]
      simp [World.cell?, hg]
      simp at this
      rw [this]
      simp [u8V, hi]) 9 Tryd.underlying9
    rw [hr]
    have e1 : strOfNums (l.map fun b => (b.toNat : Int)) = ⟨l.toArray⟩ := by
      unfold strOfNums
      congr 2
      rw [List.map_map]
      conv => rhs; rw [← List.map_id l]
      apply List.map_congr_left
      intro b _
      simp
    rw [e1]
/-- 'string(b)', b owned. -/
theorem wpList_conv_own {ops : Array Oper} {Q : Exit → Act → World → Prop} {a : Act} {w : World} {rest : List Oper} {d : Option Tmp} {ty : TypeId} {pos : String} {aft : Array Edge} {x : Operand} {B : Nat} {v : Value} {l : List UInt8} (hx : a.eval x = v) (hown : Own w B v l)
    (h : wpList Tryd.prog ops Q rest (a.put d (S l)) w) : wpList Tryd.prog ops Q (⟨d, .convert 85 9 x, ty, pos, aft, none⟩ :: rest) a w := by
  refine wpList_plain rfl fun K hK => ?_
  have hrun := hown.string
  unfold Oper.wp execOp
  simp only [hx, Sem.run_bind, hrun, Result.andThen_ok, Sem.run_pure]
  exact hK _ _ h
end Go.Proofs.YtcobfoiajdbahaaDoor
namespace Go.Proofs.YtcobfoiajdbahaaDoor
open Go.RowKit
set_option linter.unusedVariables false
theorem byt_shr (n m : Nat) : (n : Int) / (2 : Int) ^ (8 * m) % (256 : Int) = ((P.byt (n / 256 ^ m)).toNat : Int) := by
  have h : (2 : Int) ^ (8 * m) = ((256 ^ m : Nat) : Int) := by
    rw [show (256 : Nat) = 2 ^ 8 by rfl, ← Nat.pow_mul, Int.natCast_pow]
    rfl
  rw [P.byt_toNat, h]
  omega
set_option maxRecDepth 100000 in
set_option maxHeartbeats 1000000 in
theorem put_any (B : Nat) (v : Value) (l : List UInt8) (n k : Nat) (w : World) (hn : n < 18446744073709551616) (hk : k ≤ 8) (hB : B ≤ w.heap.size) (hown : Own w B v l) (hl : l.length ≤ 1000000000) :
    Calls Tryd.prog 94 #[v, V64 n, .int .i64 k] w fun e w' => ∃ v', e = .returned v' ∧ Own w' B v' (l ++ P.be k n) ∧ Below B w w' := by
  have Hlen := Lib.hid (P.be_length k n)
  have Hn := Lib.hid hn
  clear hn
  go_enter Tryd.func94, Tryd.ntmps94
  go_wp2
  go_loopw [0, 7] (fun v i wr => ∃ j : Nat, j ≤ k ∧ i = .int .i64 ((k : Int) - 1 - j) ∧ Own wr B v (l ++ (P.be k n).take j) ∧ Below B w wr) (fun _ i _ => (intOf i + 1).toNat)
  case atStart => exact ⟨0, by omega, by go_num, by simpa using hown, Below.refl _ _⟩
  case round =>
    obtain ⟨j, hj, rfl, hown', hb⟩ := hrel
    by_cases hjk : j < k
    · have hBw : B ≤ wr.heap.size := Nat.le_trans hB hb.size
      have Htk := Lib.hid (P.be_take k n j hjk)
      have hll : (l ++ (P.be k n).take j).length < 140737488355328 := by rw [List.length_append, List.length_take]; have := Hlen.out; omega
      generalize hq : l ++ (P.be k n).take j = q at *
      have Hown := Lib.hid hown'
      clear hown'
      go_wp2_with (at_builtin; refine wpList_push (by rfl) _ _ rfl B _ q (P.byt (n / 256 ^ (k - 1 - j))) _ (byt_shr n (k - 1 - j)) (by rfl) Hown.out hll (by rfl) hBw ?_; intro v2 w2 hown2 hg2)
      have Hown2 := Lib.hid hown2
      clear hown2
      go_roundw
      case rel => exact ⟨j + 1, by omega, by go_num, by rw [Htk.out, ← List.append_assoc, hq]; exact Hown2.out, below_owned (hb.alloc hBw _) (Hown.out.alloc _) (by simp; omega) hg2⟩
      case measure => simp [intOf]; omega
    · obtain rfl : j = k := by omega
      have Hfin := Lib.hid (show l ++ (P.be j n).take j = l ++ P.be j n by rw [List.take_of_length_le (by have := Hlen.out; omega)])
      have Hown := Lib.hid hown'
      generalize hq : l ++ (P.be j n).take j = q at *
      go_wp2
      go_ret
      exact ⟨_, rfl, by rw [← Hfin.out]; exact Hown.out, hb⟩
end Go.Proofs.YtcobfoiajdbahaaDoor
namespace Go.Proofs.YtcobfoiajdbahaaDoor
open Go.RowKit
set_option linter.unusedVariables false
theorem Own.up {w w' : World} {B : Nat} {v : Value} {l : List UInt8} (h : Own w B v l) (hb : Below w.heap.size w w') : Own w' B v l := by
  refine ⟨h.1, ?_⟩
  rcases h.2 with hn | ⟨g, cap, cur, rfl, hB, hg, rest⟩
  · exact .inl hn
  · exact .inr ⟨g, cap, cur, rfl, hB, (hb.block g (Array.getElem?_eq_some_iff.1 hg).1).trans hg, rest⟩
/-- A slice of numbers that reads as a list. -/
def NumsAt (w : World) (a : Option Addr) (ns : List Nat) : Prop := ∀ (i : Nat) (h : i < ns.length), ∃ b o, a = some ⟨b, o, none⟩ ∧ b < w.heap.size ∧ w.cell? ⟨b, o + i, none⟩ = some (V64 ns[i])
theorem NumsAt.below {w w' : World} {a : Option Addr} {ns : List Nat} (h : NumsAt w a ns) (hb : Below w.heap.size w w') : NumsAt w' a ns := by
  intro i hi
  obtain ⟨b, o, rfl, hlt, hc⟩ := h i hi
  exact ⟨b, o, rfl, Nat.lt_of_lt_of_le hlt hb.size, (hb.cell (p := ⟨b, o + i, none⟩) hlt).trans hc⟩
theorem P.row_len9 (n : Nat) : (P.row n).length ≤ 9 := by rw [P.row_length]; have := P.behind_le n; omega
theorem P.vars_len (ns : List Nat) : (P.vars ns).length ≤ 9 * ns.length := by
  induction ns with
  | nil => simp [P.vars]
  | cons n ns ih =>
    have := P.row_len9 n
    have h : P.vars (n :: ns) = P.row n ++ P.vars ns := rfl
    rw [h, List.length_append, List.length_cons]
    omega
theorem P.vars_snoc (ns : List Nat) (n : Nat) : P.vars (ns ++ [n]) = P.vars ns ++ P.row n := by simp [P.vars]
theorem u64_byte (n : Nat) (h : n < 248) : (n : Int) = ((P.byt n).toNat : Int) := by rw [P.byt_toNat]; omega
set_option maxRecDepth 100000 in
set_option maxHeartbeats 2000000 in
theorem var_any (a : Option Addr) (c : Nat) (ns : List Nat) (w : World) (hlen : ns.length ≤ 100000) (hns : ∀ n ∈ ns, n < 18446744073709551616) (hp : NumsAt w a ns) :
    Calls Tryd.prog 75 #[.slice a ns.length c] w fun e w' => e = .returned (S (P.vars ns)) ∧ Below w.heap.size w w' := by
  have Hns := Lib.hid hns
  have Hp := Lib.hid hp
  clear hns hp
  go_enter Tryd.func75, Tryd.ntmps75
  go_wp2
  go_loopw [3, 9] (fun v i wr => ∃ k : Nat, k ≤ ns.length ∧ i = .int .i64 k ∧ Own wr w.heap.size v (P.vars (ns.take k)) ∧ Below w.heap.size w wr) (fun _ i _ => ns.length - (intOf i).toNat)
  case atStart => exact ⟨0, by omega, rfl, by simpa [P.vars] using own_nil w w.heap.size, Below.refl _ _⟩
  case round =>
    obtain ⟨k, hk, rfl, hown, hb⟩ := hrel
    have Hown := Lib.hid hown
    clear hown
    by_cases hlt : k < ns.length
    · obtain ⟨b, o, rfl, hbb, hc⟩ := Hp.out k hlt
      have hc' := (hb.cell (p := ⟨b, o + k, none⟩) hbb).trans hc
      clear hc
      have hn := Hns.out ns[k] (List.getElem_mem _)
      have Hnx := Lib.hid (show P.vars (ns.take (k + 1)) = P.vars (ns.take k) ++ P.row ns[k] by rw [List.take_succ_eq_append_getElem hlt, P.vars_snoc])
      have hl0 : (P.vars (ns.take k)).length ≤ 900000 := by have := P.vars_len (ns.take k); rw [List.length_take] at this; omega
      generalize P.vars (ns.take k) = q at *
      generalize ns[k] = n at *
      have Hbh := Lib.hid (fun w => behind_any n hn w)
      have hbw := hb.size
      by_cases h8 : n < 248
      · have Hr := Lib.hid (show P.row n = [P.byt n] by unfold P.row; rw [if_pos h8])
        have hbeh : P.behind n = 0 := by unfold P.behind; rw [if_pos h8]
        have hn' : (n : Int) < 248 := by omega
        go_wp2_with (first
          | (go_at_call 95; (with_reducible refine (Hbh.out _).mono ?_); rintro e w1 ⟨rfl, hb1⟩; rw [hbeh]; have hbs1 := hb1.size)
          | (at_builtin; refine wpList_push (by rfl) _ _ rfl w.heap.size _ q (P.byt n) _ (u64_byte n h8) (by rfl) (Hown.out.up hb1) (by omega) (by rfl) (by omega) ?_; intro v2 w2 hown2 hg2; have Hown2 := Lib.hid hown2; clear hown2))
        go_roundw
        case rel => exact ⟨k + 1, by omega, by go_num, by rw [Hnx.out, Hr.out]; exact Hown2.out, below_owned ((hb.trans (hb1.mono hb.size)).alloc (by omega) _) ((Hown.out.up hb1).alloc _) (by simp; omega) hg2⟩
        case measure => simp [intOf]; omega
      · have hd1 := P.dig_pos n (by omega)
        have hd2 := P.dig_le n
        have Hr := Lib.hid (show P.row n = [P.byt (247 + P.dig n)] ++ P.be (P.dig n) n by unfold P.row; rw [if_neg h8]; rfl)
        have hbeh : P.behind n = P.dig n := by unfold P.behind; rw [if_neg h8]
        have Hput := Lib.hid (fun (wb : World) (B : Nat) (v : Value) (l : List UInt8) hB hown hl => put_any B v l n (P.dig n) wb hn hd2 hB hown hl)
        generalize P.be (P.dig n) n = r at *
        have Hby := Lib.hid (show (247 + (P.dig n : Int)) = ((P.byt (247 + P.dig n)).toNat : Int) by rw [P.byt_toNat]; omega)
        generalize P.byt (247 + P.dig n) = d at *
        generalize P.dig n = m at *
        go_wp2_with (first
          | (go_at_call 95; (with_reducible refine (Hbh.out _).mono ?_); rintro e w1 ⟨rfl, hb1⟩; rw [hbeh]; have hbs1 := hb1.size)
          | (go_at_call 94; refine (Hput.out _ w.heap.size _ (q ++ [d]) (by have := hg2.size; simp at this; omega) Hown2.out (by simp; omega)).mono ?_; rintro e w3 ⟨v3, rfl, hown3, hb3⟩; have Hown3 := Lib.hid hown3; clear hown3)
          | (at_builtin; refine wpList_push (by rfl) _ _ rfl w.heap.size _ q d _ Hby.out (by rfl) (Hown.out.up hb1) (by omega) (by rfl) (by omega) ?_; intro v2 w2 hown2 hg2; have Hown2 := Lib.hid hown2; clear hown2))
        go_roundw
        case rel => exact ⟨k + 1, by omega, by go_num, by rw [Hnx.out, Hr.out, ← List.append_assoc]; exact Hown3.out, (below_owned ((hb.trans (hb1.mono hb.size)).alloc (by omega) _) ((Hown.out.up hb1).alloc _) (by simp; omega) hg2).trans hb3⟩
        case measure => simp [intOf]; omega
    · obtain rfl : k = ns.length := by omega
      rw [List.take_length] at Hown
      go_wp2_with ((with_reducible show wpList _ _ _ (⟨_, .convert 85 9 _, _, _, _, _⟩ :: _) _ _); refine wpList_conv_own (by rfl) Hown.out ?_)
      go_ret
      exact ⟨rfl, hb⟩
end Go.Proofs.YtcobfoiajdbahaaDoor
namespace Go.Proofs.YtcobfoiajdbahaaDoor
open Go.RowKit
set_option linter.unusedVariables false
theorem str_drop1 (s : List UInt8) (n : Nat) (h : n = s.length) : (ByteArray.mk s.toArray).extract 1 n = ⟨s.tail.toArray⟩ := by
  rw [ByteArray.extract_mk]
  subst h
  simp
  exact List.take_of_length_le (by simp)
theorem str_at (s : List UInt8) (i : Nat) (h : i < (ByteArray.mk s.toArray).size) : ((ByteArray.mk s.toArray)[i]'h).toNat = P.at_ s i :=
  P.at_get s i h
attribute [local go_sem] str_at str_drop1
set_option maxRecDepth 100000 in
set_option maxHeartbeats 1000000 in
theorem readVar_any (s : List UInt8) (w : World) (hs : s.length ≤ 9223372036854775807) :
    Calls Tryd.prog 85 #[S s] w fun e w' => e = .returned (.tuple #[V64 (P.rNum s), .int .i64 (P.rSize s), .bool (P.rOk s)]) ∧ Below w.heap.size w w' := by
  by_cases hz : s.length = 0
  · obtain rfl : s = [] := List.length_eq_zero_iff.1 hz
    go_enter Tryd.func85, Tryd.ntmps85
    go_wp2
    exact bodyPost_ret (v := .tuple #[V64 0, .int .i64 0, .bool false]) (by simp [results, Tryd.results85, go_sem]) rfl ⟨rfl, Below.refl _ _⟩
  · have hne : s ≠ [] := fun e => hz (by rw [e]; rfl)
    have hs0 : 0 < s.length := by omega
    have hie : s.isEmpty = false := by cases s; exact absurd rfl hne; rfl
    have hlt := P.at_lt s 0
    by_cases h8 : P.at_ s 0 < 248
    · have Ho := Lib.hid (show P.rOk s = true by unfold P.rOk; rw [if_neg hz, if_pos h8])
      have Hn := Lib.hid (show P.rNum s = P.at_ s 0 by unfold P.rNum; rw [Ho.out, if_pos rfl, if_pos h8])
      have Hz := Lib.hid (show P.rSize s = 1 by unfold P.rSize; rw [Ho.out, if_pos rfl, if_pos h8])
      go_enter Tryd.func85, Tryd.ntmps85
      go_wp2
      exact bodyPost_ret (v := .tuple #[V64 (P.at_ s 0), .int .i64 1, .bool true]) (by simp [results, Tryd.results85, go_sem]) rfl ⟨by rw [Ho.out, Hn.out, Hz.out]; rfl, Below.refl _ _⟩
    · obtain ⟨m, hm⟩ : ∃ m, P.at_ s 0 = 247 + m := ⟨P.at_ s 0 - 247, by omega⟩
      have hge : 248 ≤ P.at_ s 0 := by omega
      have hm1 : 1 ≤ m := by omega
      have hm8 : m ≤ 8 := by omega
      have hdl : s.tail.length = s.length - 1 := by simp
      have hm' : m = P.at_ s 0 - 247 := by omega
      have Hm := Lib.hid hm
      have hd1 : s.drop 1 = s.tail := by simp
      have Hbo := Lib.hid (show P.bigOk s.tail ((P.at_ s 0 : Int) - 248 + 1) = decide (m ≤ s.length - 1) by
        unfold P.bigOk; rw [decide_eq_decide, hdl]; omega)
      have Hbn := Lib.hid (show m ≤ s.length - 1 → P.bigNum s.tail ((P.at_ s 0 : Int) - 248 + 1) = P.val (s.tail.take m) from fun h => by
        unfold P.bigNum
        rw [Hbo.out, decide_eq_true h, if_pos rfl, show ((P.at_ s 0 : Int) - 248 + 1).toNat = m by omega])
      have Hbig := Lib.hid (fun w => big_any s.tail ((P.at_ s 0 : Int) - 248 + 1) w (by omega) (by omega) (by omega))
      have Hr := Lib.hid (show P.rOk s = decide (m ≤ s.length - 1 ∧ P.behind (P.val (s.tail.take m)) = m) by
        unfold P.rOk; rw [if_neg hz, if_neg h8, hm, Nat.add_sub_cancel_left, hd1])
      have Hrn := Lib.hid (show P.rOk s = true → P.rNum s = P.val (s.tail.take m) from fun h => by
        unfold P.rNum; rw [h, if_pos rfl, if_neg h8, hm, Nat.add_sub_cancel_left, hd1])
      have Hrz := Lib.hid (show P.rOk s = true → P.rSize s = 1 + m from fun h => by
        unfold P.rSize; rw [h, if_pos rfl, if_neg h8, hm]; omega)
      have Hno := Lib.hid (show P.rOk s = false → P.rNum s = 0 ∧ P.rSize s = 0 from fun h => by
        unfold P.rNum P.rSize; rw [h]; exact ⟨rfl, rfl⟩)
      clear hm hm' hd1 hdl
      by_cases hfit : m ≤ s.length - 1
      · have hb1 : P.bigOk s.tail ((P.at_ s 0 : Int) - 248 + 1) = true := by rw [Hbo.out]; exact decide_eq_true hfit
        have hb2 := Hbn.out hfit
        have Hbh := Lib.hid (fun w => behind_any (P.val (s.tail.take m)) (P.val_lt8 _ (by simp; omega)) w)
        have Hbl := Lib.hid (P.behind_le (P.val (s.tail.take m)))
        generalize P.val (s.tail.take m) = n0 at *
        by_cases hbe : P.behind n0 = m
        · have Ho := Lib.hid (show P.rOk s = true by rw [Hr.out]; exact decide_eq_true ⟨hfit, hbe⟩)
          have hbi : (P.behind n0 : Int) = (P.at_ s 0 : Int) - 248 + 1 := by have := Hm.out; omega
          have Hzz := Lib.hid (show 1 + ((P.at_ s 0 : Int) - 248 + 1) = ((1 + m : Nat) : Int) by have := Hm.out; omega)
          clear hbe
          go_enter Tryd.func85, Tryd.ntmps85
          go_wp2_with (first
            | (go_at_call 81; (with_reducible refine (Hbig.out _).mono ?_); rintro e w1 ⟨rfl, hb⟩; rw [hb1, hb2])
            | (go_at_call 95; (with_reducible refine (Hbh.out _).mono ?_); rintro e w2 ⟨rfl, hbb⟩))
          exact bodyPost_ret (v := .tuple #[V64 n0, .int .i64 (1 + ((P.at_ s 0 : Int) - 248 + 1)), .bool true]) (by simp [results, Tryd.results85, go_sem]) rfl ⟨by rw [Ho.out, Hrn.out Ho.out, Hrz.out Ho.out, Hzz.out], hb.trans (hbb.mono hb.size)⟩
        · have Ho := Lib.hid (show P.rOk s = false by rw [Hr.out]; exact decide_eq_false (fun h => hbe h.2))
          have hbi : ((P.behind n0 : Int) == (P.at_ s 0 : Int) - 248 + 1) = false := by
            rw [beq_eq_false_iff_ne]; intro h; have := Hm.out; omega
          have hbi2 : ¬ ((P.behind n0 : Int) = (P.at_ s 0 : Int) - 248 + 1) := by
            intro h; have := Hm.out; omega
          clear hbe
          go_enter Tryd.func85, Tryd.ntmps85
          go_wp2_with (first
            | (go_at_call 81; (with_reducible refine (Hbig.out _).mono ?_); rintro e w1 ⟨rfl, hb⟩; rw [hb1, hb2])
            | (go_at_call 95; (with_reducible refine (Hbh.out _).mono ?_); rintro e w2 ⟨rfl, hbb⟩))
          exact bodyPost_ret (v := .tuple #[V64 0, .int .i64 0, .bool false]) (by simp [results, Tryd.results85, go_sem]) rfl ⟨by rw [Ho.out, (Hno.out Ho.out).1, (Hno.out Ho.out).2]; rfl, hb.trans (hbb.mono hb.size)⟩
      · have hb1 : P.bigOk s.tail ((P.at_ s 0 : Int) - 248 + 1) = false := by rw [Hbo.out]; exact decide_eq_false hfit
        have hb2 : P.bigNum s.tail ((P.at_ s 0 : Int) - 248 + 1) = 0 := by unfold P.bigNum; rw [hb1]; rfl
        have Ho := Lib.hid (show P.rOk s = false by rw [Hr.out]; exact decide_eq_false (fun h => hfit h.1))
        go_enter Tryd.func85, Tryd.ntmps85
        go_wp2_with (go_at_call 81; (with_reducible refine (Hbig.out _).mono ?_); rintro e w1 ⟨rfl, hb⟩; rw [hb1, hb2])
        exact bodyPost_ret (v := .tuple #[V64 0, .int .i64 0, .bool false]) (by simp [results, Tryd.results85, go_sem]) rfl ⟨by rw [Ho.out, (Hno.out Ho.out).1, (Hno.out Ho.out).2]; rfl, hb⟩
end Go.Proofs.YtcobfoiajdbahaaDoor
namespace Go.Proofs.YtcobfoiajdbahaaDoor
open Go.RowKit
set_option linter.unusedVariables false
theorem P.be_cons (k n : Nat) : P.be (k + 1) n = P.byt (n / 256 ^ k) :: P.be k n := by
  apply List.ext_getElem
  · simp [P.be_length]
  · intro j h1 h2
    rw [P.be_at]
    rcases j with _ | j
    · simp
    · have hj : j < k := by rw [P.be_length] at h1; omega
      rw [List.getElem_cons_succ, P.be_at]
      congr 3
      omega
theorem one_byte (x : Int) (n : Nat) (h : x = ((P.byt n).toNat : Int)) : (#[Value.int .u8 x] : Array Value) = bytesV [P.byt n] := by
  rw [h]; rfl
theorem byt_mod (n : Nat) : (n : Int) % 256 = ((P.byt n).toNat : Int) := by rw [P.byt_toNat]; omega
theorem str_app (a b : List UInt8) : ByteArray.mk a.toArray ++ ByteArray.mk b.toArray = ⟨(a ++ b).toArray⟩ := by
  rw [ByteArray.ext_iff]
  simp
theorem byt_small (n : Nat) (h : n < 256) : (n : Int) = ((P.byt n).toNat : Int) := by rw [P.byt_toNat]; omega
attribute [local go_sem] str_app
set_option maxRecDepth 100000 in
set_option maxHeartbeats 1000000 in
theorem bytesOf_any (n : Nat) (hn : n < 18446744073709551616) (w : World) :
    Calls Tryd.prog 80 #[V64 n] w fun e w' => e = .returned (S (P.be (P.dig n) n)) ∧ Below w.heap.size w w' := by
  have Hd := Lib.hid (fun k => P.dig_iff n k hn)
  have Hd8 := Lib.hid (P.dig_le n)
  go_enter Tryd.func80, Tryd.ntmps80
  go_wp2
  have Hn := Lib.hid hn
  clear hn
  go_loopw [0, 3] (fun v s wr => ∃ j : Nat, j ≤ P.dig n ∧ v = V64 (n / 256 ^ j) ∧ s = S (P.be j n) ∧ Below w.heap.size w wr) (fun v _ _ => (intOf v).toNat)
  case atStart => exact ⟨0, by omega, by simp, rfl, Below.refl _ _⟩
  case round =>
    obtain ⟨j, hj, rfl, rfl, hb⟩ := hrel
    have Hx := Lib.hid (Nat.div_lt_iff_lt_mul (Nat.pow_pos (n := j) (show 0 < 256 by omega)) (x := n) (y := 1))
    have Hx2 := Lib.hid (P.be_cons j n)
    have Hx3 := Lib.hid (show n / 256 ^ (j + 1) = n / 256 ^ j / 256 by rw [Nat.pow_succ, Nat.div_div_eq_div_mul])
    have hlt : n / 256 ^ j < 18446744073709551616 := Nat.lt_of_le_of_lt (Nat.div_le_self _ _) Hn.out
    have Hj := Lib.hid (show n / 256 ^ j = 0 ↔ P.dig n ≤ j by rw [Hd.out j, ← Nat.div_eq_zero_iff_lt (Nat.pow_pos (by omega))])
    have Hlen := Lib.hid (P.be_length j n)
    generalize n / 256 ^ j = n1 at *
    have Hqe := Lib.hid (rfl : P.be j n = P.be j n)
    generalize hq : P.be j n = q at Hx2 Hqe Hlen ⊢
    have Hq := Lib.hid hq
    clear hq Hqe
    by_cases hz : n1 = 0
    · have Hfin := Lib.hid (show P.be (P.dig n) n = q by rw [show P.dig n = j by have := Hj.out.1 hz; omega]; exact Hq.out)
      subst hz
      go_wp2
      go_ret
      exact ⟨by rw [Hfin.out]; rfl, hb⟩
    · have hjn := Lib.hid (show j + 1 ≤ P.dig n by have := mt Hj.out.2 hz; omega)
      have hpos : 0 < n1 := by omega
      have hql : q.length ≤ 8 := by have := Hlen.out; have := Hd8.out; omega
      clear hz
      go_wp2_with ((with_reducible show wpList _ _ _ (⟨_, .convert 85 9 _, _, _, _, _⟩ :: _) _ _); refine wpList_conv_str 5 5 wr.heap.size 0 1 1 [P.byt n1] [P.byt n1] (by rfl) Tryd.underlying85 Tryd.underlying5 Tryd.underlying9 (blk_lit rfl (one_byte _ _ (byt_mod n1))) (by simp) (by rfl) ?_)
      go_roundw
      case rel =>
        refine ⟨j + 1, hjn.out, ?_, ?_, hb.alloc hb.size _⟩
        · rw [Hx3.out]; rfl
        · rw [Hx2.out]
      case measure => simp [intOf]; omega
set_option maxRecDepth 100000 in
set_option maxHeartbeats 1000000 in
theorem row_any (n : Nat) (hn : n < 18446744073709551616) (w : World) :
    Calls Tryd.prog 47 #[V64 n] w fun e w' => e = .returned (S (P.row n)) ∧ Below w.heap.size w w' := by
  have Hby := Lib.hid (fun w => bytesOf_any n hn w)
  have Hd8 := Lib.hid (P.dig_le n)
  have hn' : n ≤ 18446744073709551615 := by omega
  by_cases h8 : n < 248
  · have Hr := Lib.hid (show P.row n = [P.byt n] by unfold P.row; rw [if_pos h8])
    go_enter Tryd.func47, Tryd.ntmps47
    go_wp2_with ((with_reducible show wpList _ _ _ (⟨_, .convert 85 9 _, _, _, _, _⟩ :: _) _ _); refine wpList_conv_str 5 5 w.heap.size 0 1 1 [P.byt n] [P.byt n] (by rfl) Tryd.underlying85 Tryd.underlying5 Tryd.underlying9 (blk_lit rfl (one_byte _ _ (byt_small n (by omega)))) (by simp) (by rfl) ?_)
    go_ret
    exact ⟨by rw [Hr.out]; rfl, (Below.refl _ _).alloc (Nat.le_refl _) _⟩
  · have Hr := Lib.hid (show P.row n = [P.byt (247 + P.dig n)] ++ P.be (P.dig n) n by unfold P.row; rw [if_neg h8]; rfl)
    have Hlen := Lib.hid (P.be_length (P.dig n) n)
    have hlen8 : (P.be (P.dig n) n).length ≤ 8 := by rw [Hlen.out]; exact Hd8.out
    have Hone := Lib.hid (show (247 + ((P.be (P.dig n) n).length : Int)) = ((P.byt (247 + P.dig n)).toNat : Int) by rw [Hlen.out, P.byt_toNat]; have := Hd8.out; omega)
    generalize P.be (P.dig n) n = q at *
    generalize P.byt (247 + P.dig n) = c at *
    go_enter Tryd.func47, Tryd.ntmps47
    go_wp2_with (first
      | (go_at_call 80; (with_reducible refine (Hby.out _).mono ?_); rintro e w1 ⟨rfl, hb⟩)
      | ((with_reducible show wpList _ _ _ (⟨_, .convert 85 9 _, _, _, _, _⟩ :: _) _ _); refine wpList_conv_str 5 5 w1.heap.size 0 1 1 [c] [c] (by rfl) Tryd.underlying85 Tryd.underlying5 Tryd.underlying9 (blk_lit rfl (by rw [Hone.out]; rfl)) (by simp) (by rfl) ?_))
    go_ret
    exact ⟨by rw [Hr.out]; rfl, hb.alloc hb.size _⟩
end Go.Proofs.YtcobfoiajdbahaaDoor
namespace Go.Proofs.YtcobfoiajdbahaaDoor
open Go.RowKit
set_option linter.unusedVariables false
theorem tail_at (s : List UInt8) (j : Nat) (h : j < s.tail.length) : s.tail[j].toNat = P.at_ s (1 + j) := by
  rcases s with _ | ⟨c, s⟩
  · simp at h
  · show s[j].toNat = ((c :: s).getD (1 + j) 0).toNat
    rw [Nat.add_comm 1 j]
    simp at h
    simp [h]
attribute [local go_sem] str_at str_take
set_option maxRecDepth 100000 in
set_option maxHeartbeats 2000000 in
theorem refReadVar_any (s : List UInt8) (w : World) (hs : s.length ≤ 9223372036854775807) :
    Calls Tryd.prog 88 #[S s] w fun e w' => e = .returned (.tuple #[V64 (P.rNum s), .int .i64 (P.rSize s), .bool (P.rOk s)]) ∧ Below w.heap.size w w' := by
  by_cases hz : s.length = 0
  · obtain rfl : s = [] := List.length_eq_zero_iff.1 hz
    go_enter Tryd.func88, Tryd.ntmps88
    go_wp2
    exact bodyPost_ret (v := .tuple #[V64 0, .int .i64 0, .bool false]) (by simp [results, Tryd.results88, go_sem]) rfl ⟨rfl, Below.refl _ _⟩
  · have hne : s ≠ [] := fun e => hz (by rw [e]; rfl)
    have hs0 : 0 < s.length := by omega
    have hie : s.isEmpty = false := by cases s; exact absurd rfl hne; rfl
    have hlt := P.at_lt s 0
    by_cases h8 : P.at_ s 0 < 248
    · have Ho := Lib.hid (show P.rOk s = true by unfold P.rOk; rw [if_neg hz, if_pos h8])
      have Hn := Lib.hid (show P.rNum s = P.at_ s 0 by unfold P.rNum; rw [Ho.out, if_pos rfl, if_pos h8])
      have Hz := Lib.hid (show P.rSize s = 1 by unfold P.rSize; rw [Ho.out, if_pos rfl, if_pos h8])
      go_enter Tryd.func88, Tryd.ntmps88
      go_wp2
      exact bodyPost_ret (v := .tuple #[V64 (P.at_ s 0), .int .i64 1, .bool true]) (by simp [results, Tryd.results88, go_sem]) rfl ⟨by rw [Ho.out, Hn.out, Hz.out]; rfl, Below.refl _ _⟩
    · obtain ⟨m, hm⟩ : ∃ m, P.at_ s 0 = 247 + m := ⟨P.at_ s 0 - 247, by omega⟩
      have hge : 248 ≤ P.at_ s 0 := by omega
      have hm1 : 1 ≤ m := by omega
      have hm8 : m ≤ 8 := by omega
      have hdl : s.tail.length = s.length - 1 := by simp
      have Hm := Lib.hid hm
      have hd1 : s.drop 1 = s.tail := by simp
      have Hr := Lib.hid (show P.rOk s = decide (m ≤ s.length - 1 ∧ P.behind (P.val (s.tail.take m)) = m) by
        unfold P.rOk; rw [if_neg hz, if_neg h8, hm, Nat.add_sub_cancel_left, hd1])
      have Hrn := Lib.hid (show P.rOk s = true → P.rNum s = P.val (s.tail.take m) from fun h => by
        unfold P.rNum; rw [h, if_pos rfl, if_neg h8, hm, Nat.add_sub_cancel_left, hd1])
      have Hrz := Lib.hid (show P.rOk s = true → P.rSize s = 1 + m from fun h => by
        unfold P.rSize; rw [h, if_pos rfl, if_neg h8, hm]; omega)
      have Hno := Lib.hid (show P.rOk s = false → P.rNum s = 0 ∧ P.rSize s = 0 from fun h => by
        unfold P.rNum P.rSize; rw [h]; exact ⟨rfl, rfl⟩)
      have Htest := Lib.hid (show 1 + m ≤ s.length → (P.row (P.val (s.tail.take m)) = s.take (1 + m) ↔ P.behind (P.val (s.tail.take m)) = m) from fun h => by
        have := P.row_test s (by omega) (by omega)
        rw [hm, Nat.add_sub_cancel_left, hd1, show 247 + m - 246 = 1 + m by omega] at this
        exact this)
      by_cases hfit : s.length < 1 + m
      · have Ho := Lib.hid (show P.rOk s = false by rw [Hr.out]; exact decide_eq_false (fun h => by omega))
        have hlen : (s.length : Int) < (P.at_ s 0 : Int) - 246 := by omega
        clear hm hd1 hfit hm1
        go_enter Tryd.func88, Tryd.ntmps88
        go_wp2
        exact bodyPost_ret (v := .tuple #[V64 0, .int .i64 0, .bool false]) (by simp [results, Tryd.results88, go_sem]) rfl ⟨by rw [Ho.out, (Hno.out Ho.out).1, (Hno.out Ho.out).2]; rfl, Below.refl _ _⟩
      · have Hv := Lib.hid (show ∀ (j : Nat) (hj : j < m), 256 * (P.val (s.tail.take j) : Int) + (P.at_ s (1 + j) : Int) = (P.val (s.tail.take (j + 1)) : Int) ∧ P.val (s.tail.take (j + 1)) < 18446744073709551616 from fun j hj => by
          have h1 : j < s.tail.length := by omega
          rw [List.take_succ_eq_append_getElem h1, ← tail_at s j h1]
          exact refBig_next _ _ (by simp; omega))
        have hlen : (P.at_ s 0 : Int) - 246 ≤ (s.length : Int) := by omega
        have hto : (P.at_ s 0 : Int) - 246 = ((1 + m : Nat) : Int) := by omega
        have Hfit := Lib.hid hfit
        have hml : 1 + m ≤ s.length := by omega
        clear hm hd1 hfit
        go_enter Tryd.func88, Tryd.ntmps88
        go_wp2
        go_loop [6, 7] (fun n i => ∃ j : Nat, j ≤ m ∧ i = .int .i64 ((1 + j : Nat) : Int) ∧ n = V64 (P.val (s.tail.take j))) (fun _ i => 1 + m - (intOf i).toNat)
        case atStart => exact ⟨0, by omega, rfl, rfl⟩
        case round =>
          obtain ⟨j, hj, rfl, rfl⟩ := hrel
          by_cases hjt : j < m
          · have Hnx := Lib.hid (Hv.out j hjt)
            have hji : 1 + j < s.length := by omega
            generalize P.val (s.tail.take j) = n0 at *
            go_wp2
            go_round
            case rel => exact ⟨j + 1, by omega, by go_num, congrArg (Value.int .u64) (u64_step n0 (P.at_ s (1 + j)) _ Hnx.out.1 Hnx.out.2)⟩
            case measure => simp [intOf]; omega
          · obtain rfl : j = m := by omega
            have hvl := P.val_lt8 (s.tail.take j) (by simp; omega)
            have Hrow := Lib.hid (fun w => row_any (P.val (s.tail.take j)) hvl w)
            generalize P.val (s.tail.take j) = n0 at *
            by_cases hbe : P.behind n0 = j
            · have Ho := Lib.hid (show P.rOk s = true by rw [Hr.out]; exact decide_eq_true ⟨by omega, hbe⟩)
              have hq : (P.row n0 == s.take (1 + j)) = true := by rw [beq_iff_eq]; exact (Htest.out hml).2 hbe
              clear hbe
              go_wp2
              go_region_with (first | (go_at_call 47; (with_reducible refine (Hrow.out _).mono ?_); rintro e w1 ⟨rfl, hb⟩) | fail)
              all_goals go_wp2
              all_goals exact bodyPost_ret (v := .tuple #[V64 n0, .int .i64 (1 + (j : Int)), .bool true]) (by simp [results, Tryd.results88, go_sem]) rfl ⟨by rw [Ho.out, Hrn.out Ho.out, Hrz.out Ho.out, Int.natCast_add]; rfl, ((Below.refl w.heap.size w).drew).trans hb⟩
            · have Ho := Lib.hid (show P.rOk s = false by rw [Hr.out]; exact decide_eq_false (fun h => hbe h.2))
              have hq : (P.row n0 == s.take (1 + j)) = false := by rw [beq_eq_false_iff_ne]; exact fun h => hbe ((Htest.out hml).1 h)
              clear hbe
              go_wp2
              go_region_with (first | (go_at_call 47; (with_reducible refine (Hrow.out _).mono ?_); rintro e w1 ⟨rfl, hb⟩) | fail)
              all_goals go_wp2
              all_goals exact bodyPost_ret (v := .tuple #[V64 0, .int .i64 0, .bool false]) (by simp [results, Tryd.results88, go_sem]) rfl ⟨by rw [Ho.out, (Hno.out Ho.out).1, (Hno.out Ho.out).2]; rfl, ((Below.refl w.heap.size w).drew).trans hb⟩
end Go.Proofs.YtcobfoiajdbahaaDoor
namespace Go.Proofs.YtcobfoiajdbahaaDoor
open Go.RowKit
set_option linter.unusedVariables false
theorem str_cut (s : List UInt8) (a b : Nat) : (ByteArray.mk s.toArray).extract a b = ⟨((s.drop a).take (b - a)).toArray⟩ := by
  rw [ByteArray.extract_mk]
set_option maxRecDepth 100000 in
set_option maxHeartbeats 2000000 in
theorem readText_any (s : List UInt8) (k : Int) (w : World) (hs : s.length ≤ 4611686018427387903) (hk0 : -9223372036854775808 ≤ k) (hk1 : k ≤ 9223372036854775807) :
    Calls Tryd.prog 84 #[S s, .int .i64 k] w fun e w' => e = .returned (.tuple #[S (P.tText s k), .int .i64 (P.tSize s k), .bool (P.tOk s k)]) ∧ Below w.heap.size w w' := by
  have Hrv := Lib.hid (fun w => readVar_any s w (by omega))
  have Hno := Lib.hid (show P.tOk s k = false → P.tText s k = [] ∧ P.tSize s k = 0 from fun h => by unfold P.tText P.tSize; rw [h]; exact ⟨rfl, rfl⟩)
  have Hyes := Lib.hid (show P.tOk s k = true → P.tText s k = (s.drop (P.rSize s)).take (P.rNum s) ∧ P.tSize s k = P.rSize s + P.rNum s from fun h => by unfold P.tText P.tSize; rw [h]; exact ⟨rfl, rfl⟩)
  by_cases hok : P.rOk s = true
  · have Hr := Lib.hid (P.row_read s hok)
    have hz1 := Hr.out.1
    have hz2 := Hr.out.2.1
    have hn := Hr.out.2.2.2
    have Ht := Lib.hid (show P.tOk s k = decide (0 ≤ k ∧ (P.rNum s : Int) ≤ k ∧ P.rSize s + P.rNum s ≤ s.length) by unfold P.tOk; rw [hok]; simp)
    generalize P.rNum s = n at *
    generalize P.rSize s = z at *
    by_cases hn1 : n ≤ s.length
    · by_cases hall : 0 ≤ k ∧ (n : Int) ≤ k ∧ z + n ≤ s.length
      · have Ho := Lib.hid (show P.tOk s k = true by rw [Ht.out]; exact decide_eq_true hall)
        obtain ⟨h1, h2, h3⟩ := hall
        have h4 : ((z : Int) + (n : Int)) ≤ (s.length : Int) := by omega
        have h5 : (n : Int) ≤ (s.length : Int) - (z : Int) := by omega
        have Hcut := Lib.hid (show (ByteArray.mk s.toArray).extract z (z + n) = ⟨((s.drop z).take n).toArray⟩ by rw [str_cut, Nat.add_sub_cancel_left])
        go_enter Tryd.func84, Tryd.ntmps84
        go_wp2_with (go_at_call 85; (with_reducible refine (Hrv.out _).mono ?_); rintro e w1 ⟨rfl, hb⟩)
        exact bodyPost_ret (v := .tuple #[.string ((ByteArray.mk s.toArray).extract z (z + n)), .int .i64 ((z : Int) + (n : Int)), .bool true]) (by simp [results, Tryd.results84, go_sem]) rfl ⟨by rw [Ho.out, (Hyes.out Ho.out).1, (Hyes.out Ho.out).2, Hcut.out]; rfl, hb⟩
      · have Ho := Lib.hid (show P.tOk s k = false by rw [Ht.out]; exact decide_eq_false hall)
        by_cases hk : k < 0
        · clear hall
          go_enter Tryd.func84, Tryd.ntmps84
          go_wp2_with (go_at_call 85; (with_reducible refine (Hrv.out _).mono ?_); rintro e w1 ⟨rfl, hb⟩)
          all_goals exact bodyPost_ret (v := .tuple #[S [], .int .i64 0, .bool false]) (by simp [results, Tryd.results84, go_sem]) rfl ⟨by rw [Ho.out, (Hno.out Ho.out).1, (Hno.out Ho.out).2]; rfl, hb⟩
        · by_cases hnk : k < (n : Int)
          · clear hall
            go_enter Tryd.func84, Tryd.ntmps84
            go_wp2_with (go_at_call 85; (with_reducible refine (Hrv.out _).mono ?_); rintro e w1 ⟨rfl, hb⟩)
            all_goals exact bodyPost_ret (v := .tuple #[S [], .int .i64 0, .bool false]) (by simp [results, Tryd.results84, go_sem]) rfl ⟨by rw [Ho.out, (Hno.out Ho.out).1, (Hno.out Ho.out).2]; rfl, hb⟩
          · have h5 : (s.length : Int) < (z : Int) + (n : Int) := by omega
            have h6 : (s.length : Int) - (z : Int) < (n : Int) := by omega
            clear hall
            go_enter Tryd.func84, Tryd.ntmps84
            go_wp2_with (go_at_call 85; (with_reducible refine (Hrv.out _).mono ?_); rintro e w1 ⟨rfl, hb⟩)
            all_goals exact bodyPost_ret (v := .tuple #[S [], .int .i64 0, .bool false]) (by simp [results, Tryd.results84, go_sem]) rfl ⟨by rw [Ho.out, (Hno.out Ho.out).1, (Hno.out Ho.out).2]; rfl, hb⟩
    · have Ho := Lib.hid (show P.tOk s k = false by rw [Ht.out]; exact decide_eq_false (fun h => hn1 (by omega)))
      have h6 : (s.length : Int) - (z : Int) < (n : Int) := by omega
      have h7 : (s.length : Int) < (n : Int) := by omega
      by_cases hk : k < 0
      · go_enter Tryd.func84, Tryd.ntmps84
        go_wp2_with (go_at_call 85; (with_reducible refine (Hrv.out _).mono ?_); rintro e w1 ⟨rfl, hb⟩)
        all_goals exact bodyPost_ret (v := .tuple #[S [], .int .i64 0, .bool false]) (by simp [results, Tryd.results84, go_sem]) rfl ⟨by rw [Ho.out, (Hno.out Ho.out).1, (Hno.out Ho.out).2]; rfl, hb⟩
      · by_cases hnk : k < (n : Int)
        · go_enter Tryd.func84, Tryd.ntmps84
          go_wp2_with (go_at_call 85; (with_reducible refine (Hrv.out _).mono ?_); rintro e w1 ⟨rfl, hb⟩)
          all_goals exact bodyPost_ret (v := .tuple #[S [], .int .i64 0, .bool false]) (by simp [results, Tryd.results84, go_sem]) rfl ⟨by rw [Ho.out, (Hno.out Ho.out).1, (Hno.out Ho.out).2]; rfl, hb⟩
        · go_enter Tryd.func84, Tryd.ntmps84
          go_wp2_with (go_at_call 85; (with_reducible refine (Hrv.out _).mono ?_); rintro e w1 ⟨rfl, hb⟩)
          all_goals exact bodyPost_ret (v := .tuple #[S [], .int .i64 0, .bool false]) (by simp [results, Tryd.results84, go_sem]) rfl ⟨by rw [Ho.out, (Hno.out Ho.out).1, (Hno.out Ho.out).2]; rfl, hb⟩
  · have hok' : P.rOk s = false := by simpa using hok
    have Ho := Lib.hid (show P.tOk s k = false by unfold P.tOk; rw [hok']; rfl)
    have Hn0 := Lib.hid (show P.rNum s = 0 ∧ P.rSize s = 0 by unfold P.rNum P.rSize; rw [hok']; exact ⟨rfl, rfl⟩)
    clear hok
    go_enter Tryd.func84, Tryd.ntmps84
    go_wp2_with (go_at_call 85; (with_reducible refine (Hrv.out _).mono ?_); rintro e w1 ⟨rfl, hb⟩)
    all_goals exact bodyPost_ret (v := .tuple #[S [], .int .i64 0, .bool false]) (by simp [results, Tryd.results84, go_sem]) rfl ⟨by rw [Ho.out, (Hno.out Ho.out).1, (Hno.out Ho.out).2]; rfl, hb⟩
set_option maxRecDepth 100000 in
set_option maxHeartbeats 2000000 in
theorem refReadText_any (s : List UInt8) (k : Int) (w : World) (hs : s.length ≤ 4611686018427387903) (hk0 : -9223372036854775808 ≤ k) (hk1 : k ≤ 9223372036854775807) :
    Calls Tryd.prog 87 #[S s, .int .i64 k] w fun e w' => e = .returned (.tuple #[S (P.tText s k), .int .i64 (P.tSize s k), .bool (P.tOk s k)]) ∧ Below w.heap.size w w' := by
  have Hrv := Lib.hid (fun w => refReadVar_any s w (by omega))
  have Hno := Lib.hid (show P.tOk s k = false → P.tText s k = [] ∧ P.tSize s k = 0 from fun h => by unfold P.tText P.tSize; rw [h]; exact ⟨rfl, rfl⟩)
  have Hyes := Lib.hid (show P.tOk s k = true → P.tText s k = (s.drop (P.rSize s)).take (P.rNum s) ∧ P.tSize s k = P.rSize s + P.rNum s from fun h => by unfold P.tText P.tSize; rw [h]; exact ⟨rfl, rfl⟩)
  by_cases hok : P.rOk s = true
  · have Hr := Lib.hid (P.row_read s hok)
    have hz1 := Hr.out.1
    have hz2 := Hr.out.2.1
    have hn := Hr.out.2.2.2
    have Ht := Lib.hid (show P.tOk s k = decide (0 ≤ k ∧ (P.rNum s : Int) ≤ k ∧ P.rSize s + P.rNum s ≤ s.length) by unfold P.tOk; rw [hok]; simp)
    generalize P.rNum s = n at *
    generalize P.rSize s = z at *
    by_cases hn1 : n ≤ s.length
    · by_cases hall : 0 ≤ k ∧ (n : Int) ≤ k ∧ z + n ≤ s.length
      · have Ho := Lib.hid (show P.tOk s k = true by rw [Ht.out]; exact decide_eq_true hall)
        obtain ⟨h1, h2, h3⟩ := hall
        have h4 : ((z : Int) + (n : Int)) ≤ (s.length : Int) := by omega
        have h5 : (n : Int) ≤ (s.length : Int) - (z : Int) := by omega
        have Hcut := Lib.hid (show (ByteArray.mk s.toArray).extract z (z + n) = ⟨((s.drop z).take n).toArray⟩ by rw [str_cut, Nat.add_sub_cancel_left])
        go_enter Tryd.func87, Tryd.ntmps87
        go_wp2_with (go_at_call 88; (with_reducible refine (Hrv.out _).mono ?_); rintro e w1 ⟨rfl, hb⟩)
        exact bodyPost_ret (v := .tuple #[.string ((ByteArray.mk s.toArray).extract z (z + n)), .int .i64 ((z : Int) + (n : Int)), .bool true]) (by simp [results, Tryd.results87, go_sem]) rfl ⟨by rw [Ho.out, (Hyes.out Ho.out).1, (Hyes.out Ho.out).2, Hcut.out]; rfl, hb⟩
      · have Ho := Lib.hid (show P.tOk s k = false by rw [Ht.out]; exact decide_eq_false hall)
        by_cases hk : k < 0
        · clear hall
          go_enter Tryd.func87, Tryd.ntmps87
          go_wp2_with (go_at_call 88; (with_reducible refine (Hrv.out _).mono ?_); rintro e w1 ⟨rfl, hb⟩)
          all_goals exact bodyPost_ret (v := .tuple #[S [], .int .i64 0, .bool false]) (by simp [results, Tryd.results87, go_sem]) rfl ⟨by rw [Ho.out, (Hno.out Ho.out).1, (Hno.out Ho.out).2]; rfl, hb⟩
        · by_cases hnk : k < (n : Int)
          · clear hall
            go_enter Tryd.func87, Tryd.ntmps87
            go_wp2_with (go_at_call 88; (with_reducible refine (Hrv.out _).mono ?_); rintro e w1 ⟨rfl, hb⟩)
            all_goals exact bodyPost_ret (v := .tuple #[S [], .int .i64 0, .bool false]) (by simp [results, Tryd.results87, go_sem]) rfl ⟨by rw [Ho.out, (Hno.out Ho.out).1, (Hno.out Ho.out).2]; rfl, hb⟩
          · have h5 : (s.length : Int) < (z : Int) + (n : Int) := by omega
            have h6 : (s.length : Int) - (z : Int) < (n : Int) := by omega
            clear hall
            go_enter Tryd.func87, Tryd.ntmps87
            go_wp2_with (go_at_call 88; (with_reducible refine (Hrv.out _).mono ?_); rintro e w1 ⟨rfl, hb⟩)
            all_goals exact bodyPost_ret (v := .tuple #[S [], .int .i64 0, .bool false]) (by simp [results, Tryd.results87, go_sem]) rfl ⟨by rw [Ho.out, (Hno.out Ho.out).1, (Hno.out Ho.out).2]; rfl, hb⟩
    · have Ho := Lib.hid (show P.tOk s k = false by rw [Ht.out]; exact decide_eq_false (fun h => hn1 (by omega)))
      have h6 : (s.length : Int) - (z : Int) < (n : Int) := by omega
      have h7 : (s.length : Int) < (n : Int) := by omega
      by_cases hk : k < 0
      · go_enter Tryd.func87, Tryd.ntmps87
        go_wp2_with (go_at_call 88; (with_reducible refine (Hrv.out _).mono ?_); rintro e w1 ⟨rfl, hb⟩)
        all_goals exact bodyPost_ret (v := .tuple #[S [], .int .i64 0, .bool false]) (by simp [results, Tryd.results87, go_sem]) rfl ⟨by rw [Ho.out, (Hno.out Ho.out).1, (Hno.out Ho.out).2]; rfl, hb⟩
      · by_cases hnk : k < (n : Int)
        · go_enter Tryd.func87, Tryd.ntmps87
          go_wp2_with (go_at_call 88; (with_reducible refine (Hrv.out _).mono ?_); rintro e w1 ⟨rfl, hb⟩)
          all_goals exact bodyPost_ret (v := .tuple #[S [], .int .i64 0, .bool false]) (by simp [results, Tryd.results87, go_sem]) rfl ⟨by rw [Ho.out, (Hno.out Ho.out).1, (Hno.out Ho.out).2]; rfl, hb⟩
        · go_enter Tryd.func87, Tryd.ntmps87
          go_wp2_with (go_at_call 88; (with_reducible refine (Hrv.out _).mono ?_); rintro e w1 ⟨rfl, hb⟩)
          all_goals exact bodyPost_ret (v := .tuple #[S [], .int .i64 0, .bool false]) (by simp [results, Tryd.results87, go_sem]) rfl ⟨by rw [Ho.out, (Hno.out Ho.out).1, (Hno.out Ho.out).2]; rfl, hb⟩
  · have hok' : P.rOk s = false := by simpa using hok
    have Ho := Lib.hid (show P.tOk s k = false by unfold P.tOk; rw [hok']; rfl)
    have Hn0 := Lib.hid (show P.rNum s = 0 ∧ P.rSize s = 0 by unfold P.rNum P.rSize; rw [hok']; exact ⟨rfl, rfl⟩)
    clear hok
    go_enter Tryd.func87, Tryd.ntmps87
    go_wp2_with (go_at_call 88; (with_reducible refine (Hrv.out _).mono ?_); rintro e w1 ⟨rfl, hb⟩)
    all_goals exact bodyPost_ret (v := .tuple #[S [], .int .i64 0, .bool false]) (by simp [results, Tryd.results87, go_sem]) rfl ⟨by rw [Ho.out, (Hno.out Ho.out).1, (Hno.out Ho.out).2]; rfl, hb⟩
end Go.Proofs.YtcobfoiajdbahaaDoor
namespace Go.Proofs.YtcobfoiajdbahaaDoor
open Go.RowKit
set_option linter.unusedVariables false
def strLen : Value → Nat
  | .string s => s.size
  | _ => 0
theorem strLen_S (l : List UInt8) : strLen (S l) = l.length := by show l.toArray.size = _; simp
set_option maxRecDepth 100000 in
set_option maxHeartbeats 2000000 in
theorem bigPut_any (n : Nat) (k : Int) (w : World) (hn : n < 18446744073709551616) (hk0 : -9223372036854775808 ≤ k) (hk1 : k ≤ 9223372036854775807) :
    Calls Tryd.prog 72 #[V64 n, .int .i64 k] w fun e w' => e = .returned (.tuple #[S (P.bigS n k), .int .i64 (P.bigE n k)]) ∧ Below w.heap.size w w' := by
  by_cases hk : 1 ≤ k ∧ k ≤ 8
  · obtain ⟨m, rfl⟩ : ∃ m : Nat, k = (m : Int) := ⟨k.toNat, by omega⟩
    have h1 : 1 ≤ m := by omega
    have h8 : m ≤ 8 := by omega
    have Hd := Lib.hid (P.dig_len n hn)
    have Hl := Lib.hid (Lib.bitLen_le n 64 (by omega) (by omega))
    have Hd8 := Lib.hid (P.dig_le n)
    by_cases hfit : P.dig n ≤ m
    · have He := Lib.hid (P.bigE_ok n m h1 h8 hfit)
      have hbl : (Lib.bitLen n : Int) ≤ 8 * (m : Int) := by have := Hd.out; omega
      have Hput := Lib.hid (put_any w.heap.size (.slice none 0 0) [] n m w hn h8 (Nat.le_refl _) (own_nil _ _) (by simp))
      clear hfit
      go_enter Tryd.func72, Tryd.ntmps72
      go_wp2_with (first
        | (go_at_call 93; refine (Tryd.bits_Len64 _ _ (by omega) (by omega)).mono ?_; rintro e w1 ⟨rfl, rfl⟩)
        | (go_at_call 94; refine Hput.out.mono ?_; rintro e w2 ⟨v2, rfl, hown2, hb2⟩; have Hown2 := Lib.hid hown2; clear hown2)
        | ((with_reducible show wpList _ _ _ (⟨_, .convert 85 9 _, _, _, _, _⟩ :: _) _ _); refine wpList_conv_own (by rfl) Hown2.out ?_))
      go_ret2
      exact ⟨by rw [He.out.1, He.out.2]; rfl, hb2⟩
    · have He := Lib.hid (P.bigE_long n m h1 h8 (by omega))
      have hbl : 8 * (m : Int) < (Lib.bitLen n : Int) := by have := Hd.out; omega
      clear hfit
      go_enter Tryd.func72, Tryd.ntmps72
      go_wp2_with (go_at_call 93; refine (Tryd.bits_Len64 _ _ (by omega) (by omega)).mono ?_; rintro e w1 ⟨rfl, rfl⟩)
      go_ret2
      exact ⟨by rw [He.out.1, He.out.2]; rfl, Below.refl _ _⟩
  · have He := Lib.hid (P.bigE_bad n k hk)
    by_cases hk1 : k < 1
    · go_enter Tryd.func72, Tryd.ntmps72
      go_wp2
      go_ret2
      exact ⟨by rw [He.out.1, He.out.2]; rfl, Below.refl _ _⟩
    · have hk8 : 8 < k := by omega
      clear hk
      go_enter Tryd.func72, Tryd.ntmps72
      go_wp2
      go_ret2
      exact ⟨by rw [He.out.1, He.out.2]; rfl, Below.refl _ _⟩
attribute [local go_sem] str_app
set_option maxRecDepth 100000 in
set_option maxHeartbeats 2000000 in
theorem refBig_any (n : Nat) (k : Int) (w : World) (hn : n < 18446744073709551616) (hk0 : -9223372036854775808 ≤ k) (hk1 : k ≤ 9223372036854775807) :
    Calls Tryd.prog 77 #[V64 n, .int .i64 k] w fun e w' => e = .returned (.tuple #[S (P.bigS n k), .int .i64 (P.bigE n k)]) ∧ Below w.heap.size w w' := by
  by_cases hk : 1 ≤ k ∧ k ≤ 8
  · obtain ⟨m, rfl⟩ : ∃ m : Nat, k = (m : Int) := ⟨k.toNat, by omega⟩
    have h1 : 1 ≤ m := by omega
    have h8 : m ≤ 8 := by omega
    have Hd := Lib.hid (P.dig_len n hn)
    have Hl := Lib.hid (Lib.bitLen_le n 64 (by omega) (by omega))
    have Hd8 := Lib.hid (P.dig_le n)
    by_cases hfit : P.dig n ≤ m
    · have He := Lib.hid (P.bigE_ok n m h1 h8 hfit)
      have Hby := Lib.hid (fun w => bytesOf_any n hn w)
      have Hlt := Lib.hid ((P.dig_iff n · hn))
      have hl0 : (P.be (P.dig n) n).length = P.dig n := P.be_length _ _
      go_enter Tryd.func77, Tryd.ntmps77
      go_wp2_with (go_at_call 80; (with_reducible refine (Hby.out _).mono ?_); rintro e w1 ⟨rfl, hb⟩)
      go_loop [6] (fun s => ∃ j : Nat, P.dig n ≤ j ∧ j ≤ m ∧ s = S (P.be j n)) (fun s => m - strLen s)
      case atStart => exact ⟨P.dig n, Nat.le_refl _, hfit, rfl⟩
      case round =>
        obtain ⟨j, hj0, hj, rfl⟩ := hrel
        have hlj : (P.be j n).length = j := P.be_length _ _
        have Hnx := Lib.hid (show P.be (j + 1) n = [0] ++ P.be j n by
          rw [P.be_cons, Nat.div_eq_of_lt ((Hlt.out j).1 hj0)]; rfl)
        have Hq := Lib.hid (rfl : P.be j n = P.be j n)
        by_cases hjm : j < m
        · go_wp2
          go_round
          case rel => exact ⟨j + 1, by omega, by omega, by rw [Hnx.out]; rfl⟩
          case measure =>
            rw [show (Value.string ⟨(0 :: P.be j n).toArray⟩) = S (0 :: P.be j n) from rfl, strLen_S, strLen_S, List.length_cons, hlj]
            omega
        · obtain rfl : j = m := by omega
          go_wp2
          go_ret2
          exact ⟨by rw [He.out.1, He.out.2]; rfl, hb⟩
    · have He := Lib.hid (P.bigE_long n m h1 h8 (by omega))
      have Hby := Lib.hid (fun w => bytesOf_any n hn w)
      have hl0 : (P.be (P.dig n) n).length = P.dig n := P.be_length _ _
      have hm : (m : Int) < (P.dig n : Int) := by omega
      go_enter Tryd.func77, Tryd.ntmps77
      go_wp2_with (go_at_call 80; (with_reducible refine (Hby.out _).mono ?_); rintro e w1 ⟨rfl, hb⟩)
      go_ret2
      exact ⟨by rw [He.out.1, He.out.2]; rfl, hb⟩
  · have He := Lib.hid (P.bigE_bad n k hk)
    by_cases hk1 : k < 1
    · go_enter Tryd.func77, Tryd.ntmps77
      go_wp2
      go_ret2
      exact ⟨by rw [He.out.1, He.out.2]; rfl, Below.refl _ _⟩
    · have hk8 : 8 < k := by omega
      clear hk
      go_enter Tryd.func77, Tryd.ntmps77
      go_wp2
      go_ret2
      exact ⟨by rw [He.out.1, He.out.2]; rfl, Below.refl _ _⟩
end Go.Proofs.YtcobfoiajdbahaaDoor
namespace Go.Proofs.YtcobfoiajdbahaaDoor
open Go.RowKit
theorem Chain.up {w wx wy : World} (h : Below w.heap.size w wx) (hb : Below wx.heap.size wx wy) : Below w.heap.size w wy := h.trans (hb.mono h.size)
theorem ret_bool {a b : Bool} (h : a = b) : Ending.returned (.bool a) = .returned (.bool b) := by rw [h]
end Go.Proofs.YtcobfoiajdbahaaDoor
namespace Go.Proofs.YtcobfoiajdbahaaDoor
open Go.RowKit
/-- A slice of structs of k cells that reads as a list. -/
def RowsAt {α : Type} (k : Nat) (cs : α → List Value) (w : World) (a : Option Addr) (l : List α) : Prop :=
  ∀ (i : Nat) (h : i < l.length), ∃ b o, a = some ⟨b, o, none⟩ ∧ b < w.heap.size ∧ ∀ j, j < k → w.cell? ⟨b, o + i * k + j, none⟩ = (cs l[i])[j]?
theorem RowsAt.up {α : Type} {k : Nat} {cs : α → List Value} {w w' : World} {a : Option Addr} {l : List α} (h : RowsAt k cs w a l) (hb : Below w.heap.size w w') : RowsAt k cs w' a l := by
  intro i hi
  obtain ⟨b, o, rfl, hlt, hc⟩ := h i hi
  exact ⟨b, o, rfl, Nat.lt_of_lt_of_le hlt hb.size, fun j hj => (hb.cell (p := ⟨b, o + i * k + j, none⟩) hlt).trans (hc j hj)⟩
theorem flat_at {α : Type} (k : Nat) (cs : α → List Value) (hk : ∀ x, (cs x).length = k) : ∀ (l : List α) (i j : Nat) (h : i < l.length), j < k → (l.flatMap cs)[i * k + j]? = (cs l[i])[j]?
  | [], i, j, h, _ => by simp at h
  | x :: l, 0, j, h, hj => by
    rw [List.flatMap_cons, List.getElem?_append_left (by rw [hk]; omega)]
    simp
  | x :: l, i + 1, j, h, hj => by
    rw [List.flatMap_cons, List.getElem?_append_right (by rw [hk, Nat.add_mul]; omega), hk, show (i + 1) * k + j - k = i * k + j by rw [Nat.add_mul]; omega]
    rw [flat_at k cs hk l i j (by simpa using h) hj]
    simp
theorem flat_len {α : Type} (k : Nat) (cs : α → List Value) (hk : ∀ x, (cs x).length = k) : ∀ (l : List α), (l.flatMap cs).length = l.length * k
  | [] => by simp
  | x :: l => by rw [List.flatMap_cons, List.length_append, hk, flat_len k cs hk l, List.length_cons, Nat.add_mul]; omega
theorem rows_new {α : Type} (k : Nat) (cs : α → List Value) (hk : ∀ x, (cs x).length = k) (w : World) (l : List α) (A : Array Value) (t : TypeId) (h : A = (l.flatMap cs).toArray) : RowsAt k cs (w.alloc (.cells A t)) (some ⟨w.heap.size, 0, none⟩) l := by
  intro i hi
  subst h
  refine ⟨w.heap.size, 0, rfl, by simp, fun j hj => ?_⟩
  rw [World.cell?_alloc_new, Nat.zero_add, ← flat_at k cs hk l i j hi hj]
  simp
/-- The slice value v owns the structs l. -/
def OwnR {α : Type} (e : TypeId) (k : Nat) (cs : α → List Value) (w : World) (B : Nat) (v : Value) (l : List α) : Prop := w.ownsRow B e k v l.length (l.flatMap cs)
section
variable {α : Type} {e : TypeId} {k : Nat} {cs : α → List Value} {w w' : World} {B : Nat} {v : Value} {l : List α}
theorem ownR_nil (w : World) (B : Nat) : OwnR e k cs w B (.slice none 0 0) ([] : List α) := World.ownsRow_nil w B _ k
theorem OwnR.alloc (h : OwnR e k cs w B v l) (o : Obj) : OwnR e k cs (w.alloc o) B v l := World.ownsRow.alloc h o
theorem OwnR.up (h : OwnR e k cs w B v l) (hb : Below w.heap.size w w') : OwnR e k cs w' B v l := by
  obtain ⟨h1, h2⟩ := h
  refine ⟨h1, ?_⟩
  rcases h2 with h2 | ⟨g, cap, cur, e1, e2, e3, e4⟩
  · exact .inl h2
  · have hg : g < w.heap.size := by
      rcases Nat.lt_or_ge g w.heap.size with h | h
      · exact h
      · rw [Array.getElem?_eq_none h] at e3; cases e3
    exact .inr ⟨g, cap, cur, e1, e2, (hb.block g hg).trans e3, e4⟩
theorem OwnR.is (hk : ∀ x, (cs x).length = k) (h : OwnR e k cs w B v l) : ∃ a c, v = .slice a l.length c ∧ RowsAt k cs w a l ∧ (a = none → l = []) := by
  obtain ⟨_, ⟨rfl, h0⟩ | ⟨g, cap, cur, rfl, _, hg, hnc, _, hcs, htake⟩⟩ := h
  · refine ⟨none, 0, by rw [h0], fun i hi => ?_, fun _ => List.length_eq_zero_iff.1 h0⟩
    rw [h0] at hi; omega
  · refine ⟨some ⟨g, 0, none⟩, cap, rfl, fun i hi => ⟨g, 0, rfl, ?_, fun j hj => ?_⟩, fun h => by cases h⟩
    · rcases Nat.lt_or_ge g w.heap.size with h | h
      · exact h
      · rw [Array.getElem?_eq_none h] at hg; cases hg
    · have hlt : i * k + j < l.length * k := by
        have : (i + 1) * k ≤ l.length * k := Nat.mul_le_mul_right k hi
        rw [Nat.add_mul] at this
        omega
      have : cur.toList[i * k + j]? = (cs l[i])[j]? := by
        rw [← flat_at k cs hk l i j hi hj, ← htake, List.getElem?_take, if_pos hlt]
      simp only [World.cell?, hg, Nat.zero_add]
      simpa using this
theorem OwnR.low {B' : Nat} (h : OwnR e k cs w B v l) (hB : B' ≤ B) : OwnR e k cs w B' v l := by
  obtain ⟨h1, h2⟩ := h
  refine ⟨h1, ?_⟩
  rcases h2 with h2 | ⟨g, cap, cur, e1, e2, e3⟩
  · exact .inl h2
  · exact .inr ⟨g, cap, cur, e1, Nat.le_trans hB e2, e3⟩
theorem OwnR.at {a : Option Addr} {n c : Nat} (h : OwnR e k cs w B (.slice a n c) l) (hk : ∀ x, (cs x).length = k) : RowsAt k cs w a l := by
  obtain ⟨a', c', he, hr, _⟩ := h.is hk
  injection he with h1
  rw [h1]
  exact hr
end
end Go.Proofs.YtcobfoiajdbahaaDoor
namespace Go.Proofs.YtcobfoiajdbahaaDoor
open Go.RowKit
/-- A box that is known whole. -/
def Bx (w : World) (g : Nat) (t : TypeId) (cs : Array Value) : Prop := w.heap[g]? = some (.cells cs t (0, 0))
section
variable {w w' : World} {g : Nat} {t : TypeId} {cs : Array Value}
theorem Bx.lt (h : Bx w g t cs) : g < w.heap.size := by
  rcases Nat.lt_or_ge g w.heap.size with hlt | hge
  · exact hlt
  · unfold Bx at h; rw [Array.getElem?_eq_none hge] at h; cases h
theorem Bx.below {B : Nat} (h : Bx w g t cs) (hb : Below B w w') (hg : g < B) : Bx w' g t cs := (hb.block g hg).trans h
theorem Bx.up (h : Bx w g t cs) (hb : Below w.heap.size w w') : Bx w' g t cs := (hb.block g h.lt).trans h
theorem Bx.fresh (w : World) (t : TypeId) (cs : Array Value) : Bx (w.alloc (.cells cs t)) w.heap.size t cs := by
  unfold Bx World.alloc
  simp
theorem Bx.drew (h : Bx w g t cs) : Bx w.drew g t cs := h
theorem Bx.cell (h : Bx w g t cs) (i : Nat) : w.cell? ⟨g, i, none⟩ = cs[i]? := by
  unfold Bx at h
  simp [World.cell?, h]
theorem Bx.frozen (h : Bx w g t cs) (i : Nat) : w.frozen? ⟨g, i, none⟩ = false := by
  unfold Bx at h
  simp [World.frozen?, h]
theorem Bx.set (h : Bx w g t cs) (i : Nat) (v : Value) : Bx (w.setCell ⟨g, i, none⟩ v) g t (cs.setIfInBounds i v) := by
  unfold Bx at h ⊢
  simp [World.setCell, Array.getElem?_modify, h]
theorem Bx.other (h : Bx w g t cs) {g' : Nat} (hne : g' ≠ g) (i : Nat) (v : Value) : Bx (w.setCell ⟨g', i, none⟩ v) g t cs := by
  unfold Bx at h ⊢
  simp [World.setCell, Array.getElem?_modify, h, hne]
/-- A box of two cells. -/
theorem Bx.two {a b : Value} (h : Bx w g t #[a, b]) : w.cell? ⟨g, 0, none⟩ = some a ∧ w.cell? ⟨g, 1, none⟩ = some b ∧ w.frozen? ⟨g, 0, none⟩ = false ∧ w.frozen? ⟨g, 1, none⟩ = false :=
  ⟨h.cell 0, h.cell 1, h.frozen 0, h.frozen 1⟩
theorem Bx.set2 {a b : Value} (h : Bx w g t #[a, b]) (a' b' : Value) : Bx ((w.setCell ⟨g, 0, none⟩ a').setCell ⟨g, 1, none⟩ b') g t #[a', b'] := (h.set 0 a').set 1 b'
theorem Bx.three {a b c : Value} (h : Bx w g t #[a, b, c]) : w.cell? ⟨g, 0, none⟩ = some a ∧ w.cell? ⟨g, 1, none⟩ = some b ∧ w.cell? ⟨g, 2, none⟩ = some c ∧ w.frozen? ⟨g, 0, none⟩ = false ∧ w.frozen? ⟨g, 1, none⟩ = false ∧ w.frozen? ⟨g, 2, none⟩ = false :=
  ⟨h.cell 0, h.cell 1, h.cell 2, h.frozen 0, h.frozen 1, h.frozen 2⟩
theorem Bx.set3 {a b c : Value} (h : Bx w g t #[a, b, c]) (a' b' c' : Value) : Bx (((w.setCell ⟨g, 0, none⟩ a').setCell ⟨g, 1, none⟩ b').setCell ⟨g, 2, none⟩ c') g t #[a', b', c'] := ((h.set 0 a').set 1 b').set 2 c'
theorem OwnR.other {α : Type} {e : TypeId} {k : Nat} {cs : α → List Value} {B : Nat} {v : Value} {l : List α} (h : OwnR e k cs w B v l) (hg : g < B) (i : Nat) (u : Value) : OwnR e k cs (w.setCell ⟨g, i, none⟩ u) B v l := by
  obtain ⟨h1, h2⟩ := h
  refine ⟨h1, ?_⟩
  rcases h2 with h2 | ⟨g', cap, cur, e1, e2, e3, e4⟩
  · exact .inl h2
  · refine .inr ⟨g', cap, cur, e1, e2, ?_, e4⟩
    have hne : g ≠ g' := by omega
    simp [World.setCell, Array.getElem?_modify, hne]
    exact e3
end
end Go.Proofs.YtcobfoiajdbahaaDoor
namespace Go.Proofs.YtcobfoiajdbahaaDoor
open Go.RowKit
def But (g : Nat) (w w' : World) : Prop := w'.os = w.os ∧ w'.tape = w.tape ∧ w'.output = w.output ∧ w.heap.size ≤ w'.heap.size ∧ ∀ b, b < w.heap.size → b ≠ g → w'.heap[b]? = w.heap[b]?
theorem But.refl (g : Nat) (w : World) : But g w w := ⟨rfl, rfl, rfl, Nat.le_refl _, fun _ _ _ => rfl⟩
theorem But.trans {g : Nat} {a b c : World} (h : But g a b) (k : But g b c) : But g a c :=
  ⟨k.1.trans h.1, k.2.1.trans h.2.1, k.2.2.1.trans h.2.2.1, Nat.le_trans h.2.2.2.1 k.2.2.2.1, fun i hi hg => (k.2.2.2.2 i (Nat.lt_of_lt_of_le hi h.2.2.2.1) hg).trans (h.2.2.2.2 i hi hg)⟩
theorem But.of {g : Nat} {w w' : World} (h : Below w.heap.size w w') : But g w w' := ⟨h.os, h.tape, h.output, h.size, fun b hb _ => h.block b hb⟩
theorem But.size {g : Nat} {w w' : World} (h : But g w w') : w.heap.size ≤ w'.heap.size := h.2.2.2.1
theorem But.set {g : Nat} {a w : World} (h : But g a w) (i : Nat) (v : Value) : But g a (w.setCell ⟨g, i, none⟩ v) :=
  h.trans ⟨rfl, rfl, rfl, by simp [World.setCell], fun b _ hne => Below.heap_setCell _ _ _ _ hne⟩
theorem But.below {g B : Nat} {w w' : World} (h : But g w w') (hB : B ≤ g) (hw : B ≤ w.heap.size) : Below B w w' := ⟨h.1, h.2.1, h.2.2.1, h.2.2.2.1, fun k hk => h.2.2.2.2 k (by omega) (by omega)⟩
theorem Bx.but {g b : Nat} {w w' : World} {t : TypeId} {cs : Array Value} (h : Bx w b t cs) (hb : But g w w') (hne : b ≠ g) : Bx w' b t cs := (hb.2.2.2.2 b h.lt hne).trans h
/-- Rows that the call owns, whose block is no box of another type. -/
theorem OwnR.but {α : Type} {e : TypeId} {k : Nat} {cs : α → List Value} {w w' : World} {B : Nat} {v : Value} {l : List α} (h : OwnR e k cs w B v l) {g : Nat} {t : TypeId} {c : Array Value} (hx : Bx w g t c) (ht : t ≠ e) (hb : But g w w') : OwnR e k cs w' B v l := by
  obtain ⟨h1, h2⟩ := h
  refine ⟨h1, ?_⟩
  rcases h2 with h2 | ⟨q, cap, cur, e1, e2, e3, e4⟩
  · exact .inl h2
  · have hq : q < w.heap.size := by
      rcases Nat.lt_or_ge q w.heap.size with h | h
      · exact h
      · rw [Array.getElem?_eq_none h] at e3; cases e3
    have hne : q ≠ g := by
      intro hh
      subst hh
      unfold Bx at hx
      rw [hx] at e3
      injection e3 with e3
      injection e3 with _ e3
      exact ht e3
    exact .inr ⟨q, cap, cur, e1, e2, (hb.2.2.2.2 q hq hne).trans e3, e4⟩
theorem But.drew {g : Nat} {a w : World} (h : But g a w) : But g a w.drew := h
theorem But.alloc {g : Nat} {a w : World} (h : But g a w) (o : Obj) : But g a (w.alloc o) := h.trans (But.of ((Below.refl _ _).alloc (Nat.le_refl _) o))
theorem But.setNew {g : Nat} {a w : World} (h : But g a w) {p : Addr} (hp : a.heap.size ≤ p.block) (u : Value) : But g a (w.setCell p u) :=
  ⟨h.1, h.2.1, h.2.2.1, by have := h.2.2.2.1; simpa [World.setCell] using this, fun b hb hne => (Below.heap_setCell _ _ _ _ (by omega)).trans (h.2.2.2.2 b hb hne)⟩
theorem But.up {g : Nat} {a w w' : World} (h : But g a w) (hb : Below a.heap.size w w') : But g a w' :=
  ⟨hb.os.trans h.1, hb.tape.trans h.2.1, hb.output.trans h.2.2.1, Nat.le_trans h.2.2.2.1 hb.size, fun b hlt hne => (hb.block b hlt).trans (h.2.2.2.2 b hlt hne)⟩
end Go.Proofs.YtcobfoiajdbahaaDoor
namespace Go.Proofs.YtcobfoiajdbahaaDoor
open Go.RowKit
set_option linter.unusedVariables false
/-! ### Worlds between which blocks of a kind alone have changed, and new ones have come -/
section
variable {p q : Nat → Prop} {a b w w' : World}
end
/-! ### Blocks of rows and bytes that the call owns: which they are not -/
theorem Own.upO {w w' : World} {B : Nat} {v : Value} {l : List UInt8} (h : Own w B v l) (hb : Below w.heap.size w w') : Own w' B v l := by
  refine ⟨h.1, ?_⟩
  rcases h.2 with hn | ⟨g, cap, cur, rfl, hB, hg, rest⟩
  · exact .inl hn
  · exact .inr ⟨g, cap, cur, rfl, hB, (Bx.up (w := w) (w' := w') (t := 5) (cs := cur) hg hb), rest⟩
theorem Own.isO {w : World} {B : Nat} {v : Value} {l : List UInt8} (h : Own w B v l) : ∃ a c, v = .slice a l.length c ∧ (a = none → l = []) := by
  rcases h.2 with ⟨rfl, h0⟩ | ⟨g, cap, cur, rfl, _⟩
  · exact ⟨none, 0, by rw [h0], fun _ => List.length_eq_zero_iff.1 h0⟩
  · exact ⟨_, _, rfl, fun h => by cases h⟩
/-- 'append(b, s...)', s a string: one operation. -/
theorem wp_appOwn {o : Oper} {a : Act} {w : World} {K : Act → World → Prop} {Q : Exit → Act → World → Prop} (s x : Operand)
    (ho : o.op = .call { callee := .builtin .append, args := #[s, x], argTypes := #[85, 9] }) (B : Nat) (v : Value) (l m : List UInt8) (hs : a.eval s = v) (hown : Own w B v l) (hx : a.eval x = S m) (hl : l.length + m.length ≤ 140737488355328) (hB : B ≤ w.heap.size)
    (h : ∀ v' w', Own w' B v' (l ++ m) → w.grownBy w' v.ownBlock → (v'.ownBlock = v.ownBlock ∨ ∀ g, v'.ownBlock = some g → w.heap.size ≤ g) → K (a.put o.dst v') w') : Oper.wp Tryd.prog o a w K Q := by
  have hi := info8
  cases hq : Tryd.prog.info? 5 with
  | none => rw [hq] at hi; cases hi
  | some i =>
    rw [hq] at hi
    simp only [Option.map_some, Option.some.injEq, Prod.mk.injEq] at hi
    have hmz : (ByteArray.mk m.toArray).size = m.length := by show m.toArray.size = _; simp
    obtain ⟨v', w', hr, h2, h3, _⟩ := Lib.run_append_own_string (P := Tryd.prog) w B 85 9 o.type 5 i Tryd.underlying85 Tryd.underlying9 hq hi.1 hi.2.1 hi.2.2 v l.length (l.map u8V) hown ⟨m.toArray⟩
      (by rw [hmz]; unfold maxLen; omega) (by rw [hmz]; omega) hB
    have hsn : v'.ownBlock = v.ownBlock ∨ ∀ g, v'.ownBlock = some g → w.heap.size ≤ g := by
      rcases hown.2 with ⟨rfl, h0⟩ | ⟨g, cap, cur, rfl, hBg, hg, hnc, hcm, hcs, htake⟩
      · obtain ⟨v2, w2, hr', h2', _, _⟩ := Lib.run_append_own_string (P := Tryd.prog) w w.heap.size 85 9 o.type 5 i Tryd.underlying85 Tryd.underlying9 hq hi.1 hi.2.1 hi.2.2 (.slice none 0 0) 0 [] (World.ownsRow_nil w w.heap.size _ 1) ⟨m.toArray⟩
          (by rw [hmz]; unfold maxLen; omega) (by rw [hmz]; omega) (Nat.le_refl _)
        rw [hr'] at hr
        injection hr with e1 _
        subst e1
        exact .inr fun q hq' => (h2'.lt q hq').1
      · by_cases hroom : l.length + m.length ≤ cap
        · have hr' := Lib.run_append_room_string (P := Tryd.prog) (w := w) 85 9 o.type 5 i Tryd.underlying85 Tryd.underlying9 hq hi.2.1 g l.length cap cur hg ⟨m.toArray⟩ (by rw [hmz]; exact hroom) (by rw [hmz]; omega)
          rw [hr'] at hr
          injection hr with e1 _
          rw [← e1]
          exact .inl rfl
        · have hr' := Lib.run_append_grow_string (P := Tryd.prog) w 85 9 o.type 5 i (.int .u8 0) Tryd.underlying85 Tryd.underlying9 hq hi.1 ⟨g, 0, none⟩ l.length cap (cur.toList.take l.length) (by rw [hi.2.1]; simp; omega)
            (fun j u hu => by
              have hjl : j < l.length := by
                rcases Nat.lt_or_ge j l.length with h | h
                · exact h
                · rw [List.getElem?_take, if_neg (by omega)] at hu; cases hu
              rw [List.getElem?_take, if_pos hjl] at hu
              rw [show (⟨g, 0, none⟩ : Addr).add j = ⟨g, j, none⟩ by unfold Addr.add; split <;> simp_all]
              simp only [World.cell?, hg]
              simpa using hu)
            ⟨m.toArray⟩ (by rw [hmz]; omega) (by rw [hmz]; omega) (by rw [hmz, hi.2.2]; exact growslice_fits (by omega) (by omega))
          rw [hr'] at hr
          injection hr with e1 _
          rw [← e1]
          exact .inr fun q hq' => by
            simp only [Value.ownBlock, Option.some.injEq] at hq'
            omega
    unfold Oper.wp execOp
    simp only [ho, resolve, invoke, builtin, Sem.run_bind, Sem.run_pure, Result.andThen_ok, List.map_toArray, List.map_cons, List.map_nil, hs, hx, hr]
    refine h v' w' ?_ h3 hsn
    unfold Own
    rw [show Lib.strCells ⟨m.toArray⟩ = m.map u8V by rw [Lib.strCells_toArray]; rfl, hmz] at h2
    simpa using h2
/-! ### A row of one more that the call owns, with what it leaves -/
section
variable {α : Type} {e : TypeId} {k : Nat} {cs : α → List Value} {w : World} {B : Nat} {v : Value} {l : List α}
end
/-! ### A slice of bytes that is read -/
end Go.Proofs.YtcobfoiajdbahaaDoor
namespace Go.Proofs.YtcobfoiajdbahaaDoor
open Go.RowKit
/-- Whatever block is of another element type is as it was. -/
def KeptT (e : TypeId) (w w' : World) : Prop := ∀ (b : Nat) (t : TypeId) (cs : Array Value) (f : Nat × Nat), t ≠ e → w.heap[b]? = some (.cells cs t f) → w'.heap[b]? = some (.cells cs t f)
section
variable {α : Type} {e : TypeId} {k : Nat} {cs : α → List Value} {w w' : World} {B : Nat} {v : Value} {l : List α}
theorem OwnR.ne (h : OwnR e k cs w B v l) {b : Nat} {t : TypeId} {c : Array Value} {f : Nat × Nat} (ht : t ≠ e) (hb : w.heap[b]? = some (.cells c t f)) : v.ownBlock ≠ some b := by
  intro hh
  obtain ⟨_, ⟨rfl, _⟩ | ⟨g, cap, cur, rfl, _, hg, _⟩⟩ := h
  · cases hh
  · simp only [Value.ownBlock, Option.some.injEq] at hh
    subst hh
    rw [hg] at hb
    injection hb with hb
    injection hb with _ hb
    exact ht hb.symm
theorem OwnR.keptT {e' : TypeId} (h : OwnR e k cs w B v l) (hk : KeptT e' w w') (he : e ≠ e') : OwnR e k cs w' B v l := by
  obtain ⟨h1, h2⟩ := h
  refine ⟨h1, ?_⟩
  rcases h2 with h2 | ⟨g, cap, cur, e1, e2, e3, e4⟩
  · exact .inl h2
  · exact .inr ⟨g, cap, cur, e1, e2, hk _ _ _ _ he e3, e4⟩
end
end Go.Proofs.YtcobfoiajdbahaaDoor
namespace Go.Proofs.YtcobfoiajdbahaaDoor
open Go.RowKit
section
variable {α : Type} {e : TypeId} {k : Nat} {cs : α → List Value} {w w' : World} {B : Nat} {v : Value} {l : List α}
theorem KeptT.refl (e : TypeId) (w : World) : KeptT e w w := fun _ _ _ _ _ h => h
theorem wp_appR {P : Program} {o : Oper} {a : Act} {K : Act → World → Prop} {Q : Exit → Act → World → Prop} (s x : Operand) (t : TypeId)
    (ho : o.op = .call { callee := .builtin .append, args := #[s, x], argTypes := #[t, t] })
    (i : TypeInfo) (z : Value) (bytes : Nat) (ht : P.underlying t = some (.slice e)) (hi : P.info? e = some i) (hz : i.zero = some z)
    (hsize : i.size = k) (hby : i.bytes = bytes) (hzs : z.cells.size = k) (hsz : 0 < k) (hk : ∀ x, (cs x).length = k) (hone : ∀ x, ∀ u ∈ cs x, u.oneCell' = true)
    (m : List α) (hs : a.eval s = v) (hown : OwnR e k cs w B v l) (hl : l.length + m.length ≤ 1000000) (hbb : bytes ≤ 100000)
    (b : Option Addr) (n c : Nat) (hx : a.eval x = .slice b n c) (hn : n = m.length) (hm : RowsAt k cs w b m) (hB : B ≤ w.heap.size)
    (h : ∀ v' w', OwnR e k cs w' B v' (l ++ m) → Below B w w' → KeptT e w w' → K (a.put o.dst v') w') : Oper.wp P o a w K Q := by
  subst hn
  cases b with
  | none =>
    obtain rfl : m = [] := by
      cases m with
      | nil => rfl
      | cons y r => obtain ⟨b, o, hb, _⟩ := hm 0 (by simp); cases hb
    have hrun : (Builtin.append_ #[t, t] o.type #[v, .slice none 0 c]).run P w = .ok v w := by
      rcases hown.2 with ⟨rfl, hn⟩ | ⟨g, cap, cur, rfl, _, _, hnc, _⟩
      · rw [hn] at *
        simp [Builtin.append_, run_underlying ht, sizeOf, typeInfo, hi, Builtin.lenOf, Builtin.firstCells]
      · simp [Builtin.append_, run_underlying ht, sizeOf, typeInfo, hi, Builtin.lenOf, Builtin.firstCells, hnc, storeCells]
    unfold Oper.wp execOp
    simp only [ho, resolve, invoke, builtin, Sem.run_bind, Sem.run_pure, Result.andThen_ok, List.map_toArray, List.map_cons, List.map_nil, hs, hx, List.length_nil, hrun]
    exact h v w (by rw [List.append_nil]; exact hown) (Below.refl _ _) (KeptT.refl _ _)
  | some ad =>
    refine wp_append_own _ s x t ho B e i z k bytes ht hi hz hsize hby hzs hsz v l.length (l.flatMap cs) hs hown ad m.length c (m.flatMap cs) hx (by rw [flat_len k cs hk]) ?_ ?_ (by unfold maxLen; omega) ?_ hB ?_
    · intro j u hj
      have hlt : j < m.length * k := by
        rw [← flat_len k cs hk]
        rcases Nat.lt_or_ge j (m.flatMap cs).length with h | h
        · exact h
        · rw [List.getElem?_eq_none h] at hj; cases hj
      have hd : j / k < m.length := Nat.div_lt_of_lt_mul (by rw [Nat.mul_comm]; exact hlt)
      have hmod : j % k < k := Nat.mod_lt _ hsz
      have hjk : j / k * k + j % k = j := by rw [Nat.mul_comm]; exact Nat.div_add_mod j k
      obtain ⟨b, o, hb, hlt', hc⟩ := hm (j / k) hd
      injection hb with hb
      subst hb
      have e1 : (⟨b, o, none⟩ : Addr).add j = ⟨b, o + j, none⟩ := by
        unfold Addr.add
        split
        · simp_all
        · rfl
      rw [e1]
      have := hc (j % k) hmod
      rw [Nat.add_assoc, hjk] at this
      rw [this, ← flat_at k cs hk m (j / k) (j % k) hd hmod, hjk, hj]
    · intro u hu
      obtain ⟨y, _, hy⟩ := List.mem_flatMap.1 hu
      exact hone y u hy
    · have : (l.length + m.length) * bytes ≤ 1000000 * 100000 := Nat.mul_le_mul hl hbb
      omega
    · intro v' w' h1 h2 _
      refine h v' w' ?_ ?_ ?_
      · unfold OwnR
        simpa using h1
      · exact (Below.refl B w).grown h2 hB (fun q hq => (World.ownsRow.lt hown q hq).1)
      · intro b t' c' f' ht' hb
        have hlt : b < w.heap.size := by
          rcases Nat.lt_or_ge b w.heap.size with hh | hh
          · exact hh
          · rw [Array.getElem?_eq_none hh] at hb; cases hb
        exact (h2.block b hlt (fun e => hown.ne ht' hb e.symm)).trans hb
/-- 'append(l, m...)'. -/
theorem wpList_appR {P : Program} {ops : Array Oper} {rest : List Oper} {o : Oper} {a : Act} {Q : Exit → Act → World → Prop} (hgd : o.guard = none) (s x : Operand) (t : TypeId)
    (ho : o.op = .call { callee := .builtin .append, args := #[s, x], argTypes := #[t, t] })
    (i : TypeInfo) (z : Value) (bytes : Nat) (ht : P.underlying t = some (.slice e)) (hi : P.info? e = some i) (hz : i.zero = some z)
    (hsize : i.size = k) (hby : i.bytes = bytes) (hzs : z.cells.size = k) (hsz : 0 < k) (hk : ∀ x, (cs x).length = k) (hone : ∀ x, ∀ u ∈ cs x, u.oneCell' = true)
    (m : List α) (hs : a.eval s = v) (hown : OwnR e k cs w B v l) (hl : l.length + m.length ≤ 1000000) (hbb : bytes ≤ 100000)
    (b : Option Addr) (n c : Nat) (hx : a.eval x = .slice b n c) (hn : n = m.length) (hm : RowsAt k cs w b m) (hB : B ≤ w.heap.size)
    (h : ∀ v' w', OwnR e k cs w' B v' (l ++ m) → Below B w w' → KeptT e w w' → wpList P ops Q rest (a.put o.dst v') w') :
    wpList P ops Q (o :: rest) a w :=
  wpList_plain hgd fun _ hK => wp_appR s x t ho i z bytes ht hi hz hsize hby hzs hsz hk hone m hs hown hl hbb b n c hx hn hm hB fun v' w' h1 h2 h3 => hK _ _ (h v' w' h1 h2 h3)
/-- A row that is made with the call. -/
theorem OwnR.lit (hk : ∀ x, (cs x).length = k) (l : List α) (A : Array Value) (hA : A = (l.flatMap cs).toArray) (hl : l.length ≤ 1000000) (hB : B ≤ w.heap.size) (g n c : Nat) (hg : g = w.heap.size) (hn : n = l.length) (hc : c = l.length) :
    OwnR e k cs (w.alloc (.cells A e)) B (.slice (some ⟨g, 0, none⟩) n c) l := by
  subst hA hg hn hc
  refine ⟨by rw [flat_len k cs hk], .inr ⟨w.heap.size, l.length, _, rfl, hB, heap_alloc_new w _, Nat.le_refl _, by unfold maxLen; omega, by rw [List.size_toArray, flat_len k cs hk], ?_⟩⟩
  rw [List.take_of_length_le (by rw [flat_len k cs hk]; exact Nat.le_refl _)]
end
end Go.Proofs.YtcobfoiajdbahaaDoor
namespace Go.Proofs.YtcobfoiajdbahaaDoor
open Go.RowKit
section
variable {P : Program} {ops : Array Oper} {Q : Exit → Act → World → Prop}
/-- The state in which each slot of the list holds a value of its own. -/
def fillA : List (Nat × Option Tmp) → (Nat → Value) → Act → Act
  | [], _, a => a
  | p :: r, v, a => fillA r v (a.put p.2 (v p.1))
def updV (v : Nat → Value) (i : Nat) (x : Value) : Nat → Value := fun j => if j = i then x else v j
/-- Numbers and slots of the list are all different. -/
def sepR : List (Nat × Option Tmp) → Bool
  | [] => true
  | p :: r => r.all (fun q => q.1 != p.1 && (p.2.isNone || q.2 != p.2)) && sepR r
theorem put_put (a : Act) (d : Option Tmp) (u v : Value) : (a.put d u).put d v = a.put d v := by
  cases d with
  | none => rfl
  | some d => simp [Act.put]
theorem fillA_out (r : List (Nat × Option Tmp)) (v : Nat → Value) (d : Option Tmp) (x : Value) (h : ∀ q ∈ r, d.isNone = true ∨ q.2 ≠ d) : ∀ a : Act, (fillA r v a).put d x = fillA r v (a.put d x) := by
  induction r with
  | nil => intro a; rfl
  | cons p r ih =>
    intro a
    show (fillA r v (a.put p.2 (v p.1))).put d x = fillA r v ((a.put d x).put p.2 (v p.1))
    rw [ih (fun q hq => h q (List.mem_cons_of_mem _ hq))]
    congr 1
    rcases h p (List.mem_cons_self ..) with hd | hd
    · cases d with
      | none => rfl
      | some d => cases hd
    · exact Act.put_comm a _ _ (fun t ht he => hd (by rw [ht, he]))
theorem fillA_congr (r : List (Nat × Option Tmp)) (u v : Nat → Value) (h : ∀ q ∈ r, u q.1 = v q.1) : ∀ a : Act, fillA r u a = fillA r v a := by
  induction r with
  | nil => intro a; rfl
  | cons p r ih =>
    intro a
    show fillA r u (a.put p.2 (u p.1)) = fillA r v (a.put p.2 (v p.1))
    rw [ih (fun q hq => h q (List.mem_cons_of_mem _ hq)), h p (List.mem_cons_self ..)]
theorem fillA_put (r : List (Nat × Option Tmp)) (v : Nat → Value) (x : Value) (p : Nat × Option Tmp) (hs : sepR r = true) (hm : p ∈ r) : ∀ a : Act, (fillA r v a).put p.2 x = fillA r (updV v p.1 x) a := by
  induction r with
  | nil => cases hm
  | cons q r ih =>
    intro a
    simp only [sepR, Bool.and_eq_true, List.all_eq_true] at hs
    show (fillA r v (a.put q.2 (v q.1))).put p.2 x = fillA r (updV v p.1 x) (a.put q.2 (updV v p.1 x q.1))
    rcases List.mem_cons.1 hm with rfl | hm
    · rw [fillA_out r v p.2 x (fun q hq => by have := hs.1 q hq; simp at this; exact this.2.imp (fun h => by rw [h]; rfl) id), put_put]
      have : updV v p.1 x p.1 = x := by simp [updV]
      rw [this]
      exact fillA_congr r _ _ (fun q hq => by have := (hs.1 q hq).1; simp only [updV]; rw [if_neg (by intro h; rw [h] at this; simp at this)]) _
    · have hne : q.1 ≠ p.1 := fun h => by have := (hs.1 p hm).1; rw [h] at this; simp at this
      rw [ih hs.2 hm]
      congr 2
      simp [updV, hne]
theorem put_keep (a : Act) (d : Tmp) : a.put (some d) (a.tmps.getD d undef) = a := by
  have : a.tmps.setIfInBounds d (a.tmps.getD d undef) = a.tmps := by
    refine Array.ext_getElem? (fun i => ?_)
    by_cases h : d = i
    · subst h
      rcases Nat.lt_or_ge d a.tmps.size with hd | hd
      · simp [hd]
      · rw [Array.getElem?_eq_none (by simpa using hd), Array.getElem?_eq_none hd]
    · rw [Array.getElem?_setIfInBounds_ne h]
  simp only [Act.put, this]
theorem fillA_keep (rem : List (Nat × Option Tmp)) (v : Nat → Value) (a : Act) (h : ∀ p ∈ rem, ∀ d, p.2 = some d → v p.1 = a.tmps.getD d undef) : fillA rem v a = a := by
  induction rem with
  | nil => rfl
  | cons p r ih =>
    have hp : a.put p.2 (v p.1) = a := by
      cases hd : p.2 with
      | none => rfl
      | some d => rw [h p (List.mem_cons_self ..) d hd]; exact put_keep a d
    show fillA r v (a.put p.2 (v p.1)) = a
    rw [hp]
    exact ih (fun q hq => h q (List.mem_cons_of_mem _ hq))
theorem keep_ex (rem : List (Nat × Option Tmp)) (a : Act) (hs : sepR rem = true) : ∃ v : Nat → Value, ∀ p ∈ rem, ∀ d, p.2 = some d → v p.1 = a.tmps.getD d undef := by
  induction rem with
  | nil => exact ⟨fun _ => undef, fun p hp => by cases hp⟩
  | cons p r ih =>
    simp only [sepR, Bool.and_eq_true, List.all_eq_true] at hs
    obtain ⟨v, hv⟩ := ih hs.2
    refine ⟨updV v p.1 (match p.2 with | some d => a.tmps.getD d undef | none => undef), fun q hq d hd => ?_⟩
    rcases List.mem_cons.1 hq with rfl | hq
    · simp [updV, hd]
    · have hne : q.1 ≠ p.1 := by have := (hs.1 q hq).1; simpa using this
      simp only [updV, if_neg hne]
      exact hv q hq d hd
/-- The operations that number i waits for. -/
def needsB (ops : Array Oper) (i j : Nat) : Bool := ((ops[i]?).map (·.after.any fun e => e.on == j && Region.binds .any e)).getD false
/-- Each operation waits for earlier ones alone. -/
def forwardB (ops : Array Oper) : Bool := (List.range ops.size).all fun i => ((ops[i]?).map (·.after.all fun e => decide (e.on < i))).getD true
/-- What one operation must do: from every state in which what it waits for is as it was said. -/
def StepI (P : Program) (ops : Array Oper) (Q : Exit → Act → World → Prop) (R : Nat → Value → World → Prop) (S : World → Prop) (Le : World → World → Prop) (rem : List (Nat × Option Tmp)) (a0 : Act) (i : Nat) (o : Oper) : Prop :=
  ∀ (vals : Nat → Value) (w : World), S w → (∀ j d, (j, d) ∈ rem → needsB ops i j = true → R j (vals j) w) →
    ∀ K : Act → World → Prop, Shut (∀ v w', R i v w' → S w' → Le w w' → K ((fillA rem vals a0).put o.dst v) w') →
      if Region.wanted o (yielded ops (fillA rem vals a0).tmps) = true then Oper.wp P o (fillA rem vals a0) w K Q else K ((fillA rem vals a0).put o.dst undef) w
theorem ready_of_unlisted {listed : Array Bool} (hf : forwardB ops = true) (hsz : listed.size = ops.size) (i : Nat) (hi : i < ops.size) (hl : listed.getD i true = false) : Region.ready .any ops listed ≠ [] := by
  intro hr
  have all : ∀ n i, i < n → i < ops.size → listed.getD i true = true := by
    intro n
    induction n with
    | zero => intro i h; omega
    | succ n ih =>
      intro i h hi
      cases hl : listed.getD i true with
      | true => rfl
      | false =>
        exfalso
        have hm : i ∈ Region.ready .any ops listed := by
          rw [mem_ready]
          refine ⟨hl, ops[i], Array.getElem?_eq_getElem hi, fun e he _ => ?_⟩
          have h1 := (List.all_eq_true.1 hf) i (List.mem_range.2 hi)
          rw [Array.getElem?_eq_getElem hi] at h1
          have h2 := (Array.all_eq_true'.1 h1) e he
          have h3 : e.on < i := by simpa using h2
          have h4 := ih e.on (by omega) (by omega)
          rw [Array.getD_eq_getD_getElem?, Array.getElem?_eq_getElem (by omega)] at h4 ⊢
          exact h4
        rw [hr] at hm
        cases hm
  rw [all _ i (Nat.lt_succ_self _) hi] at hl
  cases hl
/-- What is waited for, a step at a time, through the operations of the list. -/
def behind (ops : Array Oper) (rem : List (Nat × Option Tmp)) : Nat → List Nat → List Nat
  | 0, js => js
  | n + 1, js => behind ops rem n ((List.range ops.size).filter fun x => js.contains x || js.any fun y => rem.any (fun p => p.1 == y) && needsB ops y x)
/-- It waits for one that stands neither listed nor in the rest. -/
def waitsB (ops : Array Oper) (rem : List (Nat × Option Tmp)) (listed : Array Bool) (j : Nat) : Bool := (List.range ops.size).any fun x => needsB ops j x && (!listed.getD x true && !rem.any (fun p => p.1 == x))
/-- All are listed. -/
def listAll (listed : Array Bool) (rem : List (Nat × Option Tmp)) : Array Bool := rem.foldl (fun l p => l.setIfInBounds p.1 true) listed
theorem listAll_at (rem : List (Nat × Option Tmp)) (i : Nat) (h : ∀ p ∈ rem, p.1 ≠ i) : ∀ listed : Array Bool, (listAll listed rem)[i]? = listed[i]? := by
  induction rem with
  | nil => intro l; rfl
  | cons p r ih =>
    intro l
    show (listAll (l.setIfInBounds p.1 true) r)[i]? = _
    rw [ih (fun q hq => h q (List.mem_cons_of_mem _ hq)), Array.getElem?_setIfInBounds_ne (h p (List.mem_cons_self ..))]
theorem listAll_in (rem : List (Nat × Option Tmp)) (i : Nat) (h : ∃ p ∈ rem, p.1 = i) : ∀ listed : Array Bool, i < listed.size → (listAll listed rem)[i]? = some true := by
  induction rem with
  | nil => obtain ⟨p, hp, _⟩ := h; cases hp
  | cons p r ih =>
    intro l hi
    show (listAll (l.setIfInBounds p.1 true) r)[i]? = _
    by_cases hr : ∃ q ∈ r, q.1 = i
    · exact ih hr _ (by simpa using hi)
    · rw [listAll_at r i (fun q hq he => hr ⟨q, hq, he⟩)]
      obtain ⟨q, hq, he⟩ := h
      rcases List.mem_cons.1 hq with rfl | hq
      · subst he; simp [hi]
      · exact absurd ⟨q, hq, he⟩ hr
theorem wpAnyH_inv (R : Nat → Value → World → Prop) (S T : World → Prop) (hT : ∀ w, T w → S w) (Le : World → World → Prop) (rem : List (Nat × Option Tmp)) (a0 : Act) (listed0 : Array Bool) (k : Nat)
    (hsep : sepR rem = true) (hf : forwardB ops = true) (hdst : ∀ p ∈ rem, (ops[p.1]?).map (·.dst) = some p.2) (hsz0 : listed0.size = ops.size)
    (hpost : ∀ j, j < ops.size → listed0.getD j true = false → (∃ d, (j, d) ∈ rem) ∨ (∀ p ∈ rem, ∃ n, p.1 ∈ behind ops rem n ((List.range ops.size).filter (needsB ops j))) ∨ ∃ x, needsB ops j x = true ∧ listed0.getD x true = false ∧ ∀ p ∈ rem, p.1 ≠ x)
    (hstab : ∀ i v w w', R i v w → Le w w' → R i v w')
    (hstep : ∀ p ∈ rem, ∀ o, ops[p.1]? = some o → StepI P ops Q R T Le rem a0 p.1 o)
    (hend : ∀ vals w, T w → (∀ p ∈ rem, R p.1 (vals p.1) w) → wpAnyH P .any ops Q S k (listAll listed0 rem) (fillA rem vals a0) w) :
    ∀ n listed vals w, rem.countP (fun p => !listed.getD p.1 true) = n → listed.size = ops.size → (∀ i, (∀ p ∈ rem, p.1 ≠ i) → listed[i]? = listed0[i]?) →
      (∀ p ∈ rem, listed.getD p.1 false = true → ∀ x, needsB ops p.1 x = true → listed.getD x false = true) →
      T w → (∀ p ∈ rem, listed.getD p.1 false = true → R p.1 (vals p.1) w) → wpAnyH P .any ops Q S (n + k) listed (fillA rem vals a0) w := by
  have lt_of : ∀ p ∈ rem, p.1 < ops.size := fun p hp => by
    have h := hdst p hp
    rcases Nat.lt_or_ge p.1 ops.size with h' | h'
    · exact h'
    · rw [Array.getElem?_eq_none h'] at h; cases h
  intro n
  induction n with
  | zero =>
    intro listed vals w hc hsz hout hdown hS hR
    have hall : ∀ p ∈ rem, listed[p.1]? = some true := fun p hp => by
      have h0 := List.countP_eq_zero.1 hc p hp
      have hlt := lt_of p hp
      have h1 : listed.getD p.1 true = true := by simpa using h0
      rw [Array.getD_eq_getD_getElem?, Array.getElem?_eq_getElem (by omega)] at h1
      rw [Array.getElem?_eq_getElem (by omega)]
      simpa using h1
    have he : listed = listAll listed0 rem := by
      refine Array.ext_getElem? (fun i => ?_)
      by_cases hi : ∃ p ∈ rem, p.1 = i
      · obtain ⟨p, hp, rfl⟩ := hi
        rw [hall p hp, listAll_in rem p.1 ⟨p, hp, rfl⟩ _ (by rw [hsz0]; exact lt_of p hp)]
      · have hi' : ∀ p ∈ rem, p.1 ≠ i := fun p hp e => hi ⟨p, hp, e⟩
        rw [listAll_at rem i hi', hout i hi']
    rw [Nat.zero_add, he]
    exact hend vals w hS (fun p hp => hR p hp (by rw [Array.getD_eq_getD_getElem?, hall p hp]; rfl))
  | succ n ih =>
    intro listed vals w hc hsz hout hdown hS hR
    rw [Nat.succ_add]
    obtain ⟨p0, hp0, hp0l⟩ : ∃ p ∈ rem, listed.getD p.1 true = false := by
      have h0 := List.countP_pos_iff.1 (show 0 < rem.countP (fun p => !listed.getD p.1 true) by omega)
      obtain ⟨p, hp, h⟩ := h0
      exact ⟨p, hp, by simpa using h⟩
    refine ⟨fun hr => absurd hr (ready_of_unlisted hf hsz p0.1 (lt_of p0 hp0) hp0l), fun i hi => ?_⟩
    obtain ⟨hun, o, ho, hall⟩ := mem_ready.1 hi
    have hlt : i < ops.size := by
      rcases Nat.lt_or_ge i ops.size with h' | h'
      · exact h'
      · rw [Array.getElem?_eq_none h'] at ho; cases ho
    have hdeps : ∀ x, needsB ops i x = true → listed.getD x false = true := fun x hx => by
      simp only [needsB, ho, Option.map_some, Option.getD_some, Array.any_eq_true] at hx
      obtain ⟨q, hq, he⟩ := hx
      simp only [Bool.and_eq_true, beq_iff_eq] at he
      have := hall _ (Array.getElem_mem hq) he.2
      rw [he.1] at this
      exact this
    obtain ⟨d, hd⟩ : ∃ d, (i, d) ∈ rem := by
      by_cases hin : ∃ d, (i, d) ∈ rem
      · exact hin
      · exfalso
        have hni : ∀ p ∈ rem, p.1 ≠ i := fun p hp e => hin ⟨p.2, by rw [← e]; exact hp⟩
        have h0 : listed0.getD i true = false := by
          rw [Array.getD_eq_getD_getElem?, ← hout i hni, ← Array.getD_eq_getD_getElem?]
          exact hun
        rcases hpost i hlt h0 with h1 | h1 | ⟨x, h1, h2, h3⟩
        · exact hin h1
        · obtain ⟨m, hm⟩ := h1 p0 hp0
          have key : ∀ m js, (∀ x ∈ js, listed.getD x false = true) → ∀ x ∈ behind ops rem m js, listed.getD x false = true := by
            intro m
            induction m with
            | zero => intro js h x hx; exact h x hx
            | succ m ihm =>
              intro js h x hx
              refine ihm _ (fun y hy => ?_) x hx
              obtain ⟨_, hy2⟩ := List.mem_filter.1 hy
              simp only [Bool.or_eq_true, List.any_eq_true, Bool.and_eq_true, List.contains_iff_mem] at hy2
              rcases hy2 with hy2 | ⟨z, hz, ⟨p, hp, hpz⟩, hn⟩
              · exact h y hy2
              · have hpz' : p.1 = z := by simpa using hpz
                subst hpz'
                exact hdown p hp (h _ hz) y hn
          have h2 := key m _ (fun x hx => hdeps x (List.mem_filter.1 hx).2) p0.1 hm
          rw [Array.getD_eq_getD_getElem?] at h2 hp0l
          cases hq : listed[p0.1]? with
          | none => rw [hq] at hp0l; cases hp0l
          | some b => rw [hq] at h2 hp0l; simp at h2 hp0l; rw [h2] at hp0l; cases hp0l
        · have h4 := hdeps x h1
          rw [Array.getD_eq_getD_getElem?, hout x h3] at h4
          rw [Array.getD_eq_getD_getElem?] at h2
          cases hq : listed0[x]? with
          | none => rw [hq] at h4; cases h4
          | some b => rw [hq] at h2 h4; simp at h2 h4; rw [h2] at h4; cases h4
    have hod : o.dst = d := by have := hdst _ hd; simp only [ho, Option.map_some] at this; exact Option.some.inj this
    refine wpOp_step ho (fun K hK => ?_)
    refine hstep _ hd o ho vals w hS (fun j e hj hne => hR _ hj (hdeps j hne)) K (fun v w' hv hS' hle => hK _ _ ⟨hT _ hS', ?_⟩)
    subst hod
    rw [fillA_put rem vals v (i, o.dst) hsep hd]
    have hget : ∀ x, x ≠ i → (listed.setIfInBounds i true)[x]? = listed[x]? := fun x hx => Array.getElem?_setIfInBounds_ne (Ne.symm hx)
    have hsel : (listed.setIfInBounds i true)[i]? = some true := by simp [hsz, hlt]
    refine ih _ _ _ ?_ (by simpa using hsz) (fun x hx => ?_) (fun p hp hpl x hx => ?_) hS' (fun p hp hpl => ?_)
    · have hone : ∀ r : List (Nat × Option Tmp), sepR r = true → (i, o.dst) ∈ r → r.countP (fun p => !listed.getD p.1 true) = r.countP (fun p => !(listed.setIfInBounds i true).getD p.1 true) + 1 := by
        intro r
        induction r with
        | nil => intro _ h; cases h
        | cons q r ihr =>
          intro hs hm
          simp only [sepR, Bool.and_eq_true, List.all_eq_true] at hs
          rcases List.mem_cons.1 hm with hq | hm
          · subst hq
            have hsame : r.countP (fun p => !listed.getD p.1 true) = r.countP (fun p => !(listed.setIfInBounds i true).getD p.1 true) := by
              refine List.countP_congr (fun p hp => ?_)
              have hne : p.1 ≠ i := by have := (hs.1 p hp).1; simpa using this
              rw [Array.getD_eq_getD_getElem?, Array.getD_eq_getD_getElem?, hget _ hne]
            rw [List.countP_cons_of_pos (by simp [hun]), List.countP_cons_of_neg (by rw [Array.getD_eq_getD_getElem?, hsel]; simp), hsame]
          · have hne : q.1 ≠ i := by have := (hs.1 _ hm).1; simp at this; exact fun e => this e.symm
            have e1 : (listed.setIfInBounds i true).getD q.1 true = listed.getD q.1 true := by
              rw [Array.getD_eq_getD_getElem?, Array.getD_eq_getD_getElem?, hget _ hne]
            rw [List.countP_cons, List.countP_cons, e1, ihr hs.2 hm]
            omega
      have := hone rem hsep hd
      omega
    · rw [hget x (fun e => hx _ hd e.symm)]; exact hout x hx
    · by_cases hpi : p.1 = i
      · have h1 := hdeps x (by rw [← hpi]; exact hx)
        by_cases hxi : x = i
        · subst hxi; rw [Array.getD_eq_getD_getElem?, hsel]; rfl
        · rw [Array.getD_eq_getD_getElem?, hget _ hxi, ← Array.getD_eq_getD_getElem?]; exact h1
      · have h1 : listed.getD p.1 false = true := by rw [Array.getD_eq_getD_getElem?, ← hget _ hpi, ← Array.getD_eq_getD_getElem?]; exact hpl
        have h2 := hdown p hp h1 x hx
        by_cases hxi : x = i
        · subst hxi; rw [Array.getD_eq_getD_getElem?, hsel]; rfl
        · rw [Array.getD_eq_getD_getElem?, hget _ hxi, ← Array.getD_eq_getD_getElem?]; exact h2
    · by_cases hpi : p.1 = i
      · rw [hpi]; simp only [updV, if_true]; exact hv
      · rw [show updV vals i v p.1 = vals p.1 from by simp [updV, hpi]]
        exact hstab _ _ _ _ (hR p hp (by rw [Array.getD_eq_getD_getElem?, ← hget _ hpi, ← Array.getD_eq_getD_getElem?]; exact hpl)) hle
/-- The steps of a list of operations, one behind the other. -/
def StepsI (P : Program) (ops : Array Oper) (Q : Exit → Act → World → Prop) (R : Nat → Value → World → Prop) (S : World → Prop) (Le : World → World → Prop) (rem : List (Nat × Option Tmp)) (a0 : Act) : List Oper → Nat → Prop
  | [], _ => True
  | o :: r, i => ((∃ d, (i, d) ∈ rem) → StepI P ops Q R S Le rem a0 i o) ∧ StepsI P ops Q R S Le rem a0 r (i + 1)
variable {R : Nat → Value → World → Prop} {S : World → Prop} {Le : World → World → Prop} {rem : List (Nat × Option Tmp)} {a0 : Act}
theorem StepsI.nil {i : Nat} : StepsI P ops Q R S Le rem a0 [] i := trivial
theorem StepsI.cons {i : Nat} {o : Oper} {r : List Oper} (h : StepI P ops Q R S Le rem a0 i o) (hr : StepsI P ops Q R S Le rem a0 r (i + 1)) : StepsI P ops Q R S Le rem a0 (o :: r) i := ⟨fun _ => h, hr⟩
theorem StepsI.skip {i : Nat} {o : Oper} {r : List Oper} (h : rem.all (fun p => p.1 != i) = true) (hr : StepsI P ops Q R S Le rem a0 r (i + 1)) : StepsI P ops Q R S Le rem a0 (o :: r) i :=
  ⟨fun ⟨d, hd⟩ => by have := (List.all_eq_true.1 h) _ hd; simp at this, hr⟩
theorem StepsI.get {l : List Oper} : ∀ {k : Nat}, StepsI P ops Q R S Le rem a0 l k → ∀ i o, l[i]? = some o → (∃ d, (k + i, d) ∈ rem) → StepI P ops Q R S Le rem a0 (k + i) o := by
  induction l with
  | nil => intro k _ i o h; cases h
  | cons x l ih =>
    intro k hs i o h hd
    cases i with
    | zero => rw [List.getElem?_cons_zero] at h; cases h; exact hs.1 hd
    | succ i =>
      rw [List.getElem?_cons_succ] at h
      have := ih hs.2 i o h (by rw [show k + 1 + i = k + (i + 1) by omega]; exact hd)
      rw [show k + (i + 1) = k + 1 + i by omega]
      exact this
/-- The rule: the rest of a region, each operation once; what waits for all of them comes behind. -/
theorem wpAnyH_by2 {l : List Oper} (R : Nat → Value → World → Prop) (T : World → Prop) (Le : World → World → Prop) (rem : List (Nat × Option Tmp)) (k : Nat) {S : World → Prop} {a0 : Act} {fuel : Nat} {listed : Array Bool} {w : World}
    (hT : ∀ w, T w → S w) (hops : ops = l.toArray) (hsep : sepR rem = true) (hf : forwardB ops = true) (hdst : (rem.all fun p => ((ops[p.1]?).map (·.dst)).any (· == p.2)) = true) (hsz : Nat.beq listed.size ops.size = true)
    (hpost : ((List.range ops.size).all fun j => listed.getD j true || (rem.any (fun p => p.1 == j) || ((rem.all fun p => (behind ops rem 4 ((List.range ops.size).filter (needsB ops j))).contains p.1) || waitsB ops rem listed j))) = true)
    (hrem : (rem.all fun p => !listed.getD p.1 true) = true) (hfuel : Nat.beq fuel (rem.length + k) = true)
    (hstab : ∀ i v w w', R i v w → Le w w' → R i v w') (hS : T w)
    (hstep : StepsI P ops Q R T Le rem a0 l 0)
    (hend : ∀ vals w, T w → (∀ p ∈ rem, R p.1 (vals p.1) w) → wpAnyH P .any ops Q S k (listAll listed rem) (fillA rem vals a0) w) :
    wpAnyH P .any ops Q S fuel listed a0 w := by
  subst hops
  obtain ⟨v0, hv0⟩ := keep_ex rem a0 hsep
  rw [← fillA_keep rem v0 a0 hv0, Nat.eq_of_beq_eq_true hfuel]
  have hsz' := Nat.eq_of_beq_eq_true hsz
  have hun : ∀ p ∈ rem, listed.getD p.1 true = false := fun p hp => by have := (List.all_eq_true.1 hrem) p hp; simpa using this
  have hno : ∀ p ∈ rem, listed.getD p.1 false = true → False := fun p hp h => by
    have h1 := hun p hp
    rw [Array.getD_eq_getD_getElem?] at h h1
    cases hq : listed[p.1]? with
    | none => rw [hq] at h1; cases h1
    | some b => rw [hq] at h h1; simp at h h1; rw [h] at h1; cases h1
  refine wpAnyH_inv R S T hT Le rem a0 listed k hsep hf (fun p hp => ?_) hsz' (fun j hj hl => ?_) hstab (fun p hp o ho => ?_) hend _ listed _ w ?_ hsz' (fun i _ => rfl) (fun p hp hl => (hno p hp hl).elim) hS (fun p hp hl => (hno p hp hl).elim)
  · have := (List.all_eq_true.1 hdst) p hp
    cases h : (l.toArray[p.1]?).map (·.dst) with
    | none => rw [h] at this; cases this
    | some d => rw [h] at this; simp only [Option.any_some, beq_iff_eq] at this; rw [this]
  · have := (List.all_eq_true.1 hpost) j (List.mem_range.2 hj)
    rw [hl, Bool.false_or, Bool.or_eq_true, List.any_eq_true, Bool.or_eq_true, List.all_eq_true] at this
    rcases this with ⟨p, hp, he⟩ | h | h
    · exact .inl ⟨p.2, by rw [← show p.1 = j from by simpa using he]; exact hp⟩
    · exact .inr (.inl fun p hp => ⟨4, by simpa using h p hp⟩)
    · unfold waitsB at h
      obtain ⟨x, hx, h⟩ := List.any_eq_true.1 h
      simp only [Bool.and_eq_true, Bool.not_eq_true'] at h
      exact .inr (.inr ⟨x, h.1, h.2.1, fun p hp e => by
        have := List.any_eq_false.1 h.2.2 p hp
        simp [e] at this⟩)
  · have := StepsI.get hstep p.1 o (by simpa using ho) ⟨p.2, by rw [Nat.zero_add]; exact hp⟩
    rw [Nat.zero_add] at this
    exact this
  · rw [List.countP_eq_length.2]
    intro p hp
    rw [hun p hp]
    rfl
/-- The same with the region's own condition. -/
theorem wpAnyH_by {l : List Oper} (R : Nat → Value → World → Prop) (Le : World → World → Prop) (rem : List (Nat × Option Tmp)) (k : Nat) {S : World → Prop} {a0 : Act} {fuel : Nat} {listed : Array Bool} {w : World}
    (hops : ops = l.toArray) (hsep : sepR rem = true) (hf : forwardB ops = true) (hdst : (rem.all fun p => ((ops[p.1]?).map (·.dst)).any (· == p.2)) = true) (hsz : Nat.beq listed.size ops.size = true)
    (hpost : ((List.range ops.size).all fun j => listed.getD j true || (rem.any (fun p => p.1 == j) || ((rem.all fun p => (behind ops rem 4 ((List.range ops.size).filter (needsB ops j))).contains p.1) || waitsB ops rem listed j))) = true)
    (hrem : (rem.all fun p => !listed.getD p.1 true) = true) (hfuel : Nat.beq fuel (rem.length + k) = true)
    (hstab : ∀ i v w w', R i v w → Le w w' → R i v w') (hS : S w)
    (hstep : StepsI P ops Q R S Le rem a0 l 0)
    (hend : ∀ vals w, S w → (∀ p ∈ rem, R p.1 (vals p.1) w) → wpAnyH P .any ops Q S k (listAll listed rem) (fillA rem vals a0) w) :
    wpAnyH P .any ops Q S fuel listed a0 w :=
  wpAnyH_by2 R S Le rem k (fun _ h => h) hops hsep hf hdst hsz hpost hrem hfuel hstab hS hstep hend
/-- One operation alone may come up. -/
theorem wpAnyH_one {i : Nat} {o : Oper} {fuel : Nat} {listed : Array Bool} {a : Act} {w : World} {S : World → Prop} (hr : Region.ready .any ops listed = [i]) (ho : ops[i]? = some o)
    (h : ∀ K' : Act → World → Prop, Shut (∀ a w, S w → wpAnyH P .any ops Q S fuel (listed.setIfInBounds i true) a w → K' a w) → if Region.wanted o (yielded ops a.tmps) = true then Oper.wp P o a w K' Q else K' (a.put o.dst undef) w) :
    wpAnyH P .any ops Q S (fuel + 1) listed a w :=
  ⟨(fun h0 => by rw [hr] at h0; cases h0), fun j hj => by
    rw [hr, List.mem_singleton] at hj
    subst hj
    exact wpOp_step ho (fun K' hK => h K' (fun a w hS hW => hK a w ⟨hS, hW⟩))⟩
end
end Go.Proofs.YtcobfoiajdbahaaDoor
namespace Go.Proofs.YtcobfoiajdbahaaDoor
open Go.RowKit
set_option linter.unusedVariables false
theorem nums_new (w : World) (ns : List Nat) (cs : Array Value) (t : TypeId) (h : cs = (ns.map V64).toArray) : NumsAt (w.alloc (.cells cs t)) (some ⟨w.heap.size, 0, none⟩) ns := by
  intro i hi
  subst h
  refine ⟨w.heap.size, 0, rfl, by simp, ?_⟩
  rw [World.cell?_alloc_new]
  simp [hi]
end Go.Proofs.YtcobfoiajdbahaaDoor
namespace Go.Proofs.YtcobfoiajdbahaaDoor
open Go.RowKit
def StrsAt (w : World) (a : Option Addr) (ps : List (List UInt8)) : Prop := ∀ (i : Nat) (h : i < ps.length), ∃ b o, a = some ⟨b, o, none⟩ ∧ b < w.heap.size ∧ w.cell? ⟨b, o + i, none⟩ = some (S ps[i])
theorem StrsAt.up {w w' : World} {a : Option Addr} {ps : List (List UInt8)} (h : StrsAt w a ps) (hb : Below w.heap.size w w') : StrsAt w' a ps := by
  intro i hi
  obtain ⟨b, o, rfl, hlt, hc⟩ := h i hi
  exact ⟨b, o, rfl, Nat.lt_of_lt_of_le hlt hb.size, (hb.cell (p := ⟨b, o + i, none⟩) hlt).trans hc⟩
theorem strs_new (w : World) (ps : List (List UInt8)) (cs : Array Value) (t : TypeId) (h : cs = (ps.map S).toArray) : StrsAt (w.alloc (.cells cs t)) (some ⟨w.heap.size, 0, none⟩) ps := by
  intro i hi
  subst h
  refine ⟨w.heap.size, 0, rfl, by simp, ?_⟩
  rw [World.cell?_alloc_new]
  simp [hi]
end Go.Proofs.YtcobfoiajdbahaaDoor
namespace Go.Proofs.YtcobfoiajdbahaaDoor
open Go.RowKit
set_option linter.unusedVariables false
attribute [local go_sem] str_app
set_option maxRecDepth 100000 in
set_option maxHeartbeats 2000000 in
theorem texts_any (a : Option Addr) (c : Nat) (ss : List (List UInt8)) (w : World) (hlen : ss.length ≤ 200) (hss : P.total ss ≤ 20000) (hp : StrsAt w a ss) :
    Calls Tryd.prog 74 #[.slice a ss.length c] w fun e w' => e = .returned (S (P.texts ss)) ∧ Below w.heap.size w w' := by
  have Hp := Lib.hid hp
  clear hp
  go_enter Tryd.func74, Tryd.ntmps74
  go_wp2
  go_loopw [3, 8] (fun s i wr => ∃ k : Nat, k ≤ ss.length ∧ i = .int .i64 k ∧ s = S (P.texts (ss.take k)) ∧ Below w.heap.size w wr) (fun _ i _ => ss.length - (intOf i).toNat)
  case atStart => exact ⟨0, by omega, rfl, by simp [P.texts], Below.refl _ _⟩
  case round =>
    obtain ⟨k, hk, rfl, rfl, hb⟩ := hrel
    by_cases hlt : k < ss.length
    · obtain ⟨b, o, rfl, hbb, hc⟩ := Hp.out k hlt
      have hc' := (hb.cell (p := ⟨b, o + k, none⟩) hbb).trans hc
      clear hc
      have Hnx := Lib.hid (show P.texts (ss.take (k + 1)) = P.texts (ss.take k) ++ (P.row ss[k].length ++ ss[k]) by rw [List.take_succ_eq_append_getElem hlt, P.texts_snoc])
      have hl0 : (P.texts (ss.take k)).length ≤ 22000 := by have := P.texts_len (ss.take k); have := P.total_take ss k; rw [List.length_take] at *; omega
      have hl1 : ss[k].length ≤ 20000 := Nat.le_trans (P.mem_total ss _ (List.getElem_mem _)) hss
      generalize P.texts (ss.take k) = q at *
      generalize ss[k] = s at *
      have hrl := P.row_len9 s.length
      have Hvar := Lib.hid (fun (w : World) => var_any (some ⟨w.heap.size, 0, none⟩) 1 [s.length] (w.alloc (.cells #[V64 s.length] 22)) (by simp) (by simp; omega) (nums_new w _ _ _ rfl))
      rw [show P.vars [s.length] = P.row s.length by simp [P.vars]] at Hvar
      generalize P.row s.length = r at *
      go_wp2_with (go_at_call 75; refine (Hvar.out _).mono ?_; rintro e w1 ⟨rfl, hb1⟩)
      go_roundw
      case rel => exact ⟨k + 1, by omega, by go_num, by rw [Hnx.out], (hb.alloc hb.size _).trans (hb1.mono (by have := hb.size; simp; omega))⟩
      case measure => simp [intOf]; omega
    · obtain rfl : k = ss.length := by omega
      rw [List.take_length]
      go_wp2
      go_ret
      exact ⟨rfl, hb⟩
end Go.Proofs.YtcobfoiajdbahaaDoor
namespace Go.Proofs.YtcobfoiajdbahaaDoor
open Go.RowKit
section
variable {P : Program} {ops : Array Oper} {Q : Exit → Act → World → Prop}
variable {R : Nat → Value → World → Prop} {S : World → Prop} {Le : World → World → Prop} {rem : List (Nat × Option Tmp)} {a0 : Act}
end
theorem nrm {α : Type} : (∀ (l : List α) (i : Nat) (h : i < l.toArray.size), l.toArray[i]'h = l[i]'(by simpa using h)) ∧ (∀ (b : α) (l : List α) (i : Nat) (h : i + 1 < (b :: l).length), (b :: l)[i + 1]'h = l[i]'(by simpa using h)) ∧ (∀ (b : α) (l : List α) (h : 0 < (b :: l).length), (b :: l)[0]'h = b) ∧ (∀ (l : List α) (i : Nat) (v : α), l.toArray.setIfInBounds i v = (l.set i v).toArray) ∧ (∀ (b : α) (l : List α) (v : α), (b :: l).set 0 v = v :: l) ∧ (∀ (b : α) (l : List α) (i : Nat) (v : α), (b :: l).set (i + 1) v = b :: l.set i v) :=
  ⟨fun _ _ _ => List.getElem_toArray _, fun _ _ _ _ => List.getElem_cons_succ .., fun _ _ _ => rfl, fun _ _ _ => List.setIfInBounds_toArray .., fun _ _ _ => rfl, fun _ _ _ _ => rfl⟩
end Go.Proofs.YtcobfoiajdbahaaDoor
