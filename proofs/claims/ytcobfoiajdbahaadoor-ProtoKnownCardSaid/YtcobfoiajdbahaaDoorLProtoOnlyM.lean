/- ProtoOnly: what is read of any bytes is right, and has just these bytes; what is heard of any bytes, told again, is these bytes. The walk of the law. -/
import Derived.Test.YtcobfoiajdbahaaDoorWQLookM
import Derived.Test.YtcobfoiajdbahaaDoorWQAwake
import Derived.Test.YtcobfoiajdbahaaDoorWQTell
import Derived.Test.YtcobfoiajdbahaaDoorWQAns
import Derived.Deep.DeepCutAuto

namespace Go.Proofs.YtcobfoiajdbahaaDoor.P
set_option linter.unusedVariables false
set_option linter.unusedSimpArgs false

theorem tailB_short {op : Nat} {a : An} (h : 1 ≤ op ∧ op ≤ 9) (hm : mayA op a = true) : (tailB op a).length ≤ 80 := by
  by_cases h57 : 5 ≤ op ∧ op ≤ 7
  · unfold mayA at hm
    rw [if_pos h57, Bool.and_eq_true] at hm
    have ho := hm.2
    unfold nameOk at ho
    simp only [decide_eq_true_eq] at ho
    unfold tailB
    rw [if_pos h57]
    unfold leB txB
    simp only [List.length_append]
    have h1 := adX_le a.a
    have h2 := row_len9 a.owner.length
    have h3 := row_len9 a.til
    omega
  · unfold tailB
    rw [if_neg h57, if_neg (by omega), if_neg (by omega), if_neg (by omega), if_neg (by omega), if_neg (by omega)]
    simp
theorem told_lists {op : Nat} {a : An} (hm : mayA op a = true) (ht : toldA op a = a) : a.rows.length ≤ 16 ∧ a.events.length ≤ 16 ∧ a.pools.length ≤ 16 := by
  by_cases h57 : 5 ≤ op ∧ op ≤ 7
  · rw [← ht]; unfold toldA; rw [if_pos h57]; exact ⟨by simp [noAn], by simp [noAn], by simp [noAn]⟩
  by_cases h10 : op = 10
  · rw [← ht]; unfold toldA; rw [if_neg h57, if_pos h10]; exact ⟨by simp [noAn], by simp [noAn], by simp [noAn]⟩
  by_cases h11 : op = 11
  · unfold mayA at hm
    rw [if_neg h57, if_neg h10, if_pos h11] at hm
    simp only [Bool.and_eq_true, decide_eq_true_eq] at hm
    rw [← ht]; unfold toldA; rw [if_neg h57, if_neg h10, if_pos h11]; exact ⟨hm.2, by simp [noAn], by simp [noAn]⟩
  by_cases h12 : op = 12
  · unfold mayA at hm
    rw [if_neg h57, if_neg h10, if_neg h11, if_pos h12] at hm
    simp only [Bool.and_eq_true, decide_eq_true_eq] at hm
    rw [← ht]; unfold toldA; rw [if_neg h57, if_neg h10, if_neg h11, if_pos h12]; exact ⟨by simp [noAn], hm.2, by simp [noAn]⟩
  by_cases h13 : op = 13 ∨ op = 14
  · unfold mayA at hm
    rw [if_neg h57, if_neg h10, if_neg h11, if_neg h12, if_pos h13] at hm
    simp only [Bool.and_eq_true, decide_eq_true_eq] at hm
    rw [← ht]; unfold toldA; rw [if_neg h57, if_neg h10, if_neg h11, if_neg h12, if_pos h13]; exact ⟨by simp [noAn], by simp [noAn], hm.2⟩
  by_cases h15 : op = 15
  · rw [← ht]; unfold toldA; rw [if_neg h57, if_neg h10, if_neg h11, if_neg h12, if_neg h13, if_pos h15]; exact ⟨by simp [noAn], by simp [noAn], by simp [noAn]⟩
  · rw [← ht]; unfold toldA; rw [if_neg h57, if_neg h10, if_neg h11, if_neg h12, if_neg h13, if_neg h15]; exact ⟨by simp [noAn], by simp [noAn], by simp [noAn]⟩
theorem tellB_len (op cl nu : Nat) (a : An) (e : Int) : (tellB op cl nu a e).length = 11 + (if e = 0 then tailB op a else []).length := by
  unfold tellB
  rw [List.length_cons, List.length_append, headB_len]
  omega
/-- What is heard, with all that is known of it. -/
structure Heard (s : List UInt8) (op cl nu : Nat) (a : An) (e : Nat) : Prop where
  c : hearC s = headC (op, cl, nu)
  a' : hearA s = a
  e' : hearN s = e
  is : s = tellB op cl nu a (e : Int)
  op' : op < 256
  cl' : cl < 256
  nu' : nu < 18446744073709551616
  lt : e < 256
  ty : tyAn a
  may : e = 0 → mayA op a = true
  told : e = 0 → toldA op a = a
  no : e ≠ 0 → a = noAn
  ok : hearOkE op (e : Int) = true
theorem heard_of {s : List UInt8} (h : hearOk s = true) : ∃ op cl nu a e, Heard s op cl nu a e := by
  obtain ⟨h1, h2, h3, h4, h5, h6⟩ := hear_is h
  obtain ⟨t1, t2, t3⟩ := hearH_ty s
  refine ⟨(hearH s).1.1, (hearH s).1.2.1, (hearH s).1.2.2, (hearT s).1, (hearE s).1, ?_⟩
  exact { c := by unfold hearC; rw [if_pos h], a' := by unfold hearA; rw [if_pos h], e' := by unfold hearN; rw [if_pos h], is := h1, op' := t1, cl' := t2, nu' := t3, lt := h2, ty := h3, may := fun e => (h5 e).1, told := fun e => (h5 e).2, no := h6, ok := h4 }
section
variable {s : List UInt8} {op cl nu : Nat} {a : An} {e : Nat}
theorem Heard.lists (h : Heard s op cl nu a e) : a.rows.length ≤ 16 ∧ a.events.length ≤ 16 ∧ a.pools.length ≤ 16 := by
  by_cases he : e = 0
  · exact told_lists (h.may he) (h.told he)
  · rw [h.no he]; exact ⟨by simp [noAn], by simp [noAn], by simp [noAn]⟩
theorem Heard.len (h : Heard s op cl nu a e) : 11 ≤ s.length ∧ (e ≠ 0 → s.length = 11) ∧ (1 ≤ op ∧ op ≤ 9 → s.length ≤ 100) := by
  rw [h.is, tellB_len]
  refine ⟨by omega, fun he => ?_, fun ho => ?_⟩
  · rw [if_neg (by omega)]; simp
  · by_cases he : e = 0
    · rw [if_pos (by omega)]
      have := tailB_short ho (h.may he)
      omega
    · rw [if_neg (by omega)]; simp
theorem Heard.known (h : Heard s op cl nu a e) (he : e = 0) : 1 ≤ op ∧ op ≤ 15 := by
  have := h.ok
  unfold hearOkE at this
  subst he
  simpa [knownB] using this
theorem Heard.cons (h : Heard s op cl nu a e) : ∃ r, s = byt e :: byt op :: byt cl :: r := ⟨_, by rw [h.is]; unfold tellB headB; rw [byI_nat e h.lt]; rfl⟩
theorem Heard.app (h : Heard s op cl nu a e) (x : List UInt8) : hearOk (s ++ x) = decide (x = []) := by
  have := (hear_app op cl nu a (e : Int) x h.op' h.cl' h.nu' h.ty (by have := h.lt; omega) (fun he => h.may (by omega))).1
  rw [← h.is, h.ok, Bool.true_and] at this
  exact this
end
theorem hear_cut {s : List UInt8} (h : hearOk s = true) (k : Nat) (hk : k < s.length) : hearOk (s.take k) = false := by
  cases hq : hearOk (s.take k) with
  | false => rfl
  | true =>
    obtain ⟨op, cl, nu, a, e, hh⟩ := heard_of hq
    have h1 := hh.app (s.drop k)
    rw [List.take_append_drop, h] at h1
    have h2 : s.drop k = [] := by simpa using h1.symm
    have h3 := congrArg List.length h2
    rw [List.length_drop] at h3
    simp at h3
    omega
end Go.Proofs.YtcobfoiajdbahaaDoor.P

namespace Go.Proofs.YtcobfoiajdbahaaDoor
open Go.RowKit
set_option linter.unusedVariables false
set_option linter.unusedSimpArgs false
abbrev noAnV : Value := .agg #[.int .u8 0, .int .u64 0, .int .u64 0, .string ⟨#[]⟩, .int .u64 0, .int .u8 0, .int .u64 0, .int .u64 0, .int .i64 0, .bool false, .bool false, .bool false, .int .u64 0, .slice none 0 0, .slice none 0 0, .slice none 0 0]
def P.greatC (x : P.Ca) : Bool := decide (2000 < x.owner.length) || decide (2000 < x.to.length)
theorem P.greatC_no {x : P.Ca} (h : P.greatC x = false) : x.owner.length ≤ 2000 ∧ x.to.length ≤ 2000 := by
  unfold P.greatC at h
  simp only [Bool.or_eq_false_iff, decide_eq_false_iff_not] at h
  omega
set_option maxRecDepth 100000 in
set_option maxHeartbeats 8000000 in
theorem greatC_any (x : P.Ca) (ho : x.owner.length ≤ 9223372036854775807) (hto : x.to.length ≤ 9223372036854775807) (w : World) :
    Calls Tryd.prog 11 #[caV x, noAnV] w fun e w' => e = .returned (.bool (P.greatC x)) ∧ Below w.heap.size w w' := by
  obtain ⟨h1, h2, hA⟩ := two_bx w #[.int .u8 (x.op : Nat), .int .u8 (x.client : Nat), V64 x.number, .int .u8 (x.p.a.fam : Nat), V64 x.p.a.hi, V64 x.p.a.lo, .int .i64 x.p.bits, .int .u8 (x.a.fam : Nat), V64 x.a.hi, V64 x.a.lo, S x.owner, S x.to, V64 x.d, V64 x.fr, .int .i64 x.n] #[.int .u8 0, .int .u64 0, .int .u64 0, .string ⟨#[]⟩, .int .u64 0, .int .u8 0, .int .u64 0, .int .u64 0, .int .i64 0, .bool false, .bool false, .bool false, .int .u64 0, .slice none 0 0, .slice none 0 0, .slice none 0 0] 28 36
  have hre : P.greatC x = (decide (2000 < x.owner.length) || decide (2000 < x.to.length)) := rfl
  by_cases ha : 2000 < x.owner.length
  · have hi : (2000 : Int) < (x.owner.length : Int) := by omega
    have hg : P.greatC x = true := by rw [hre, decide_eq_true ha]; rfl
    have Hg := Lib.hid hg
    clear hg hre ha
    go_enter Tryd.func11, Tryd.ntmps11
    go_upto_region 1 with fail
    generalize hW : (w.alloc (.cells #[.int .u8 (x.op : Nat), .int .u8 (x.client : Nat), V64 x.number, .int .u8 (x.p.a.fam : Nat), V64 x.p.a.hi, V64 x.p.a.lo, .int .i64 x.p.bits, .int .u8 (x.a.fam : Nat), V64 x.a.hi, V64 x.a.lo, S x.owner, S x.to, V64 x.d, V64 x.fr, .int .i64 x.n] 28)).alloc (.cells #[.int .u8 0, .int .u64 0, .int .u64 0, .string ⟨#[]⟩, .int .u64 0, .int .u8 0, .int .u64 0, .int .u64 0, .int .i64 0, .bool false, .bool false, .bool false, .int .u64 0, .slice none 0 0, .slice none 0 0, .slice none 0 0] 36) = w2 at *
    clear hW
    obtain ⟨⟨c0, c1, c2, c3, c4, c5, c6, c7, c8, c9, c10, c11, c12, c13, c14⟩, -⟩ := h1.cells15
    obtain ⟨⟨a0, a1, a2, a3, a4, a5, a6, a7, a8, a9, a10, a11, a12, a13, a14, a15⟩, -⟩ := h2.cells16
    go_wp2_with fail
    all_goals (go_ret; exact ⟨by rw [Hg.out]; rfl, hA⟩)
  · have hi : ¬ (2000 : Int) < (x.owner.length : Int) := by omega
    by_cases hb : 2000 < x.to.length
    · have hj : (2000 : Int) < (x.to.length : Int) := by omega
      have hg : P.greatC x = true := by rw [hre, decide_eq_false ha, decide_eq_true hb]; rfl
      have Hg := Lib.hid hg
      clear hg hre ha hb
      go_enter Tryd.func11, Tryd.ntmps11
      go_upto_region 1 with fail
      generalize hW : (w.alloc (.cells #[.int .u8 (x.op : Nat), .int .u8 (x.client : Nat), V64 x.number, .int .u8 (x.p.a.fam : Nat), V64 x.p.a.hi, V64 x.p.a.lo, .int .i64 x.p.bits, .int .u8 (x.a.fam : Nat), V64 x.a.hi, V64 x.a.lo, S x.owner, S x.to, V64 x.d, V64 x.fr, .int .i64 x.n] 28)).alloc (.cells #[.int .u8 0, .int .u64 0, .int .u64 0, .string ⟨#[]⟩, .int .u64 0, .int .u8 0, .int .u64 0, .int .u64 0, .int .i64 0, .bool false, .bool false, .bool false, .int .u64 0, .slice none 0 0, .slice none 0 0, .slice none 0 0] 36) = w2 at *
      clear hW
      obtain ⟨⟨c0, c1, c2, c3, c4, c5, c6, c7, c8, c9, c10, c11, c12, c13, c14⟩, -⟩ := h1.cells15
      obtain ⟨⟨a0, a1, a2, a3, a4, a5, a6, a7, a8, a9, a10, a11, a12, a13, a14, a15⟩, -⟩ := h2.cells16
      go_wp2_with fail
      all_goals (go_ret; exact ⟨by rw [Hg.out]; rfl, hA⟩)
    · have hj : ¬ (2000 : Int) < (x.to.length : Int) := by omega
      have hg : P.greatC x = false := by rw [hre, decide_eq_false ha, decide_eq_false hb]; rfl
      have Hg := Lib.hid hg
      clear hg hre ha hb
      go_enter Tryd.func11, Tryd.ntmps11
      go_upto_region 1 with fail
      generalize hW : (w.alloc (.cells #[.int .u8 (x.op : Nat), .int .u8 (x.client : Nat), V64 x.number, .int .u8 (x.p.a.fam : Nat), V64 x.p.a.hi, V64 x.p.a.lo, .int .i64 x.p.bits, .int .u8 (x.a.fam : Nat), V64 x.a.hi, V64 x.a.lo, S x.owner, S x.to, V64 x.d, V64 x.fr, .int .i64 x.n] 28)).alloc (.cells #[.int .u8 0, .int .u64 0, .int .u64 0, .string ⟨#[]⟩, .int .u64 0, .int .u8 0, .int .u64 0, .int .u64 0, .int .i64 0, .bool false, .bool false, .bool false, .int .u64 0, .slice none 0 0, .slice none 0 0, .slice none 0 0] 36) = w2 at *
      clear hW
      obtain ⟨⟨c0, c1, c2, c3, c4, c5, c6, c7, c8, c9, c10, c11, c12, c13, c14⟩, -⟩ := h1.cells15
      obtain ⟨⟨a0, a1, a2, a3, a4, a5, a6, a7, a8, a9, a10, a11, a12, a13, a14, a15⟩, -⟩ := h2.cells16
      go_wp2_with fail
      go_loopw [5] (fun i wr => i = .int .i64 0 ∧ Bx wr (w.heap.size + 1) 36 #[.int .u8 0, .int .u64 0, .int .u64 0, .string ⟨#[]⟩, .int .u64 0, .int .u8 0, .int .u64 0, .int .u64 0, .int .i64 0, .bool false, .bool false, .bool false, .int .u64 0, .slice none 0 0, .slice none 0 0, .slice none 0 0] ∧ Below w.heap.size w wr) (fun _ _ => 0)
      case atStart => exact ⟨rfl, h2, hA⟩
      case round =>
        clear a0 a1 a2 a3 a4 a5 a6 a7 a8 a9 a10 a11 a12 a13 a14 a15 h2 hA
        obtain ⟨rfl, h2, hA⟩ := hrel
        obtain ⟨⟨a0, a1, a2, a3, a4, a5, a6, a7, a8, a9, a10, a11, a12, a13, a14, a15⟩, -⟩ := h2.cells16
        go_wp2_with fail
        go_loopw [6] (fun i wr => i = .int .i64 0 ∧ Bx wr (w.heap.size + 1) 36 #[.int .u8 0, .int .u64 0, .int .u64 0, .string ⟨#[]⟩, .int .u64 0, .int .u8 0, .int .u64 0, .int .u64 0, .int .i64 0, .bool false, .bool false, .bool false, .int .u64 0, .slice none 0 0, .slice none 0 0, .slice none 0 0] ∧ Below w.heap.size w wr) (fun _ _ => 0)
        case atStart => exact ⟨rfl, h2, hA⟩
        case round =>
          clear a0 a1 a2 a3 a4 a5 a6 a7 a8 a9 a10 a11 a12 a13 a14 a15 h2 hA
          obtain ⟨rfl, h2, hA⟩ := hrel
          obtain ⟨⟨a0, a1, a2, a3, a4, a5, a6, a7, a8, a9, a10, a11, a12, a13, a14, a15⟩, -⟩ := h2.cells16
          go_wp2_with fail
          go_ret
          exact ⟨by rw [Hg.out]; rfl, hA⟩
theorem str_takeN (s : List UInt8) (m : Nat) : (ByteArray.mk s.toArray).extract 0 m = ⟨(s.take m).toArray⟩ := by
  rw [ByteArray.extract_mk, List.drop_zero, Nat.sub_zero]
theorem P.eqI_self (l : List Int) (s : List (List UInt8)) : P.eqI l l s s = true := by unfold P.eqI; simp
theorem P.read_cut {d : P.Ca} (h : P.rightC d = true) (ht : P.tyC d) (k : Nat) (hk : k < (P.bytesC d).length) : P.readOk ((P.bytesC d).take k) = false := by
  cases hq : P.readOk ((P.bytesC d).take k) with
  | false => rfl
  | true =>
    obtain ⟨r1, r2⟩ := P.read_is hq
    have e : P.bytesC d = P.bytesC (P.readC ((P.bytesC d).take k)) ++ (P.bytesC d).drop k := by rw [r2, List.take_append_drop]
    have h1 := (P.read_app r1 (P.readC_ty _).1 ((P.bytesC d).drop k)).1
    rw [← e, (P.read_right h ht).1] at h1
    have h2 : (P.bytesC d).drop k = [] := by simpa using h1.symm
    have h3 := congrArg List.length h2
    rw [List.length_drop] at h3
    simp at h3
    omega
end Go.Proofs.YtcobfoiajdbahaaDoor

namespace Go.Proofs.YtcobfoiajdbahaaDoor
open Go.RowKit
set_option linter.unusedVariables false
set_option linter.unusedSimpArgs false
attribute [local go_sem high] eq_Call guardCall P.eqI_self
theorem hear_yes {s : List UInt8} (hs : s.length ≤ 1000000) {op cl nu e : Nat} {a : P.An} (h : P.Heard s op cl nu a e) (ho : P.hearOk s = true) (w : World) :
    Calls Tryd.prog 23 #[S s] w fun e' w' => ∃ r rc v vc p pc, e' = .returned (.tuple #[.agg #[.int .u8 (op : Nat), .int .u8 (cl : Nat), V64 nu, .int .u8 0, .int .u64 0, .int .u64 0, .int .i64 0, .int .u8 0, .int .u64 0, .int .u64 0, .string ⟨#[]⟩, .string ⟨#[]⟩, .int .u64 0, .int .u64 0, .int .i64 0], .agg #[.int .u8 (a.a.fam : Nat), V64 a.a.hi, V64 a.a.lo, S a.owner, V64 a.til, .int .u8 (a.pool.a.fam : Nat), V64 a.pool.a.hi, V64 a.pool.a.lo, .int .i64 a.pool.bits, .bool a.has, .bool a.held, .bool a.live, V64 a.clock, .slice r a.rows.length rc, .slice v a.events.length vc, .slice p a.pools.length pc], .int .i64 (e : Nat), .bool true]) ∧ Below w.heap.size w w' :=
  (hear_any s hs w).mono fun e' w' h' => by
    obtain ⟨r, rc, v, vc, p, pc, h1, -, h2⟩ := h'
    rw [h.c, h.a', h.e', ho] at h1
    exact ⟨r, rc, v, vc, p, pc, h1, h2⟩
theorem hear_not {s : List UInt8} (hs : s.length ≤ 1000000) (ho : P.hearOk s = false) (w : World) :
    Calls Tryd.prog 23 #[S s] w fun e' w' => ∃ r rc v vc p pc, e' = .returned (.tuple #[.agg #[.int .u8 0, .int .u8 0, .int .u64 0, .int .u8 0, .int .u64 0, .int .u64 0, .int .i64 0, .int .u8 0, .int .u64 0, .int .u64 0, .string ⟨#[]⟩, .string ⟨#[]⟩, .int .u64 0, .int .u64 0, .int .i64 0], .agg #[.int .u8 0, .int .u64 0, .int .u64 0, .string ⟨#[]⟩, .int .u64 0, .int .u8 0, .int .u64 0, .int .u64 0, .int .i64 0, .bool false, .bool false, .bool false, .int .u64 0, .slice r 0 rc, .slice v 0 vc, .slice p 0 pc], .int .i64 0, .bool false]) ∧ Below w.heap.size w w' :=
  (hear_any s hs w).mono fun e' w' h' => by
    obtain ⟨r, rc, v, vc, p, pc, h1, -, h2⟩ := h'
    rw [show P.hearC s = P.noC by unfold P.hearC; rw [ho]; rfl, show P.hearA s = P.noAn by unfold P.hearA; rw [ho]; rfl, show P.hearN s = 0 by unfold P.hearN; rw [ho]; rfl, ho] at h1
    exact ⟨r, rc, v, vc, p, pc, h1, h2⟩
theorem str_cat (s t : List UInt8) : (ByteArray.mk s.toArray ++ ByteArray.mk t.toArray) = ByteArray.mk (s ++ t).toArray := by simp [ByteArray.ext_iff, ByteArray.data_append]
end Go.Proofs.YtcobfoiajdbahaaDoor

namespace Go.Proofs.YtcobfoiajdbahaaDoor
open Go.RowKit
set_option linter.unusedVariables false
set_option linter.unusedSimpArgs false
theorem wrap_midT {z : Int} (h1 : -9223372036854775808 ≤ z) (h2 : z ≤ 9223372036854775807) : IntKind.i64.wrap z = z := by
  unfold IntKind.wrap
  simp [IntKind.signed, IntKind.bits]
  omega
theorem take_flat {α : Type} (f : α → List UInt8) (l : List α) (j : Nat) (h : j < l.length) : (l.take (j + 1)).flatMap f = (l.take j).flatMap f ++ f l[j] := by
  rw [List.take_add_one, List.getElem?_eq_getElem h, List.flatMap_append]
  simp
theorem flat_len_le {α : Type} (f : α → List UInt8) (b : Nat) (l : List α) (h : ∀ y ∈ l, (f y).length ≤ b) (j : Nat) : ((l.take j).flatMap f).length ≤ b * j := by
  induction j with
  | zero => simp
  | succ j ih =>
    by_cases hj : j < l.length
    · rw [take_flat f l j hj, List.length_append]
      have := h _ (List.getElem_mem hj)
      rw [Nat.mul_add]
      omega
    · rw [List.take_of_length_le (by omega)]
      rw [List.take_of_length_le (by omega)] at ih
      exact Nat.le_trans ih (Nat.mul_le_mul_left _ (by omega))
theorem P.txB_le2 {s : List UInt8} (h : s.length ≤ 2000) : (P.txB s).length ≤ 2009 := by unfold P.txB; rw [List.length_append]; have := P.row_len9 s.length; omega
theorem P.leB_le2 {s : List UInt8} (h : s.length ≤ 2000) (n : Nat) : (P.leB s n).length ≤ 2018 := by unfold P.leB; rw [List.length_append]; have := P.txB_le2 h; have := P.row_len9 n; omega
theorem P.rwB_le {r : P.Rw} (h : r.owner.length ≤ 2000) : (P.rwB r).length ≤ 2035 := by unfold P.rwB; rw [List.length_append]; have := P.adX_le r.a; have := P.leB_le2 h r.til; omega
theorem P.evB_le {r : P.Ev} (h : r.owner.length ≤ 2000) : (P.evB r).length ≤ 2035 := by unfold P.evB; simp only [List.length_cons, List.length_append]; have := P.txB_le2 h; have := P.row_len9 r.at'; have := P.row_len9 r.til; omega
theorem infoRw1 : (Tryd.prog.info? 80).map (·.size) = some 5 := by kernel_rfl
theorem infoEv1 : (Tryd.prog.info? 82).map (·.size) = some 4 := by kernel_rfl
set_option maxRecDepth 100000 in
set_option maxHeartbeats 8000000 in
theorem tell_clock (x : P.Ca) (a : P.An) (r : Option Addr) (rc : Nat) (v : Option Addr) (vc : Nat) (p : Option Addr) (pc : Nat) (ht : P.tyC x) (hta : P.tyAn a) (hop : x.op = 15) (w : World) :
    Calls Tryd.prog 21 #[caV x, anV a r rc v vc p pc, .int .i64 0] w fun e' w' => e' = .returned (S (P.tellB x.op x.client x.number a 0)) ∧ Below w.heap.size w w' := by
  obtain ⟨hc, ha, hwb, hA⟩ := three_bx w #[.int .u8 (x.op : Nat), .int .u8 (x.client : Nat), V64 x.number, .int .u8 (x.p.a.fam : Nat), V64 x.p.a.hi, V64 x.p.a.lo, .int .i64 x.p.bits, .int .u8 (x.a.fam : Nat), V64 x.a.hi, V64 x.a.lo, S x.owner, S x.to, V64 x.d, V64 x.fr, .int .i64 x.n] #[.int .u8 (a.a.fam : Nat), V64 a.a.hi, V64 a.a.lo, S a.owner, V64 a.til, .int .u8 (a.pool.a.fam : Nat), V64 a.pool.a.hi, V64 a.pool.a.lo, .int .i64 a.pool.bits, .bool a.has, .bool a.held, .bool a.live, V64 a.clock, .slice r a.rows.length rc, .slice v a.events.length vc, .slice p a.pools.length pc] #[.slice none 0 0] 28 36 87
  obtain ⟨L0, hL0⟩ : ∃ L : List UInt8, L = [] := ⟨_, rfl⟩
  have hl0 : L0.length ≤ 0 := by rw [hL0]; exact Nat.le_refl _
  obtain ⟨L1, hL1⟩ : ∃ L, L = L0 ++ [P.byI 0] := ⟨_, rfl⟩
  have hl1 : L1.length ≤ 1 := by rw [hL1, List.length_append]; simp only [List.length_singleton]; omega
  have H1 := Lib.hid (fun wx (h : Wr wx (w.heap.size + 1 + 1) L0) => show Calls Tryd.prog 36 #[.pointer (some ⟨w.heap.size + 1 + 1, 0, none⟩), .int .i64 0] wx fun e w' => e = .returned (.tuple #[]) ∧ Wr w' (w.heap.size + 1 + 1) L1 ∧ Below (w.heap.size + 1 + 1) wx w' ∧ KeptW (w.heap.size + 1 + 1) wx w' from by rw [hL1]; exact wbyte_any _ L0 0 wx (by omega) h)
  obtain ⟨L2, hL2⟩ : ∃ L, L = L1 ++ P.headB x.op x.client x.number := ⟨_, rfl⟩
  have hl2 : L2.length ≤ 11 := by rw [hL2, List.length_append]; have := P.headB_len x.op x.client x.number; omega
  have H2 := Lib.hid (fun wx (h : Wr wx (w.heap.size + 1 + 1) L1) => show Calls Tryd.prog 31 #[.pointer (some ⟨w.heap.size + 1 + 1, 0, none⟩), caV x] wx fun e w' => e = .returned (.tuple #[]) ∧ Wr w' (w.heap.size + 1 + 1) L2 ∧ Below (w.heap.size + 1 + 1) wx w' ∧ KeptW (w.heap.size + 1 + 1) wx w' from by rw [hL2]; exact whead_any _ L1 x wx (by omega) h ht.1 ht.2.1 ht.2.2.1)
  obtain ⟨L3, hL3⟩ : ∃ L, L = L2 ++ P.row a.clock := ⟨_, rfl⟩
  have hl3 : L3.length ≤ 20 := by rw [hL3, List.length_append]; have := P.row_len9 a.clock; omega
  have H3 := Lib.hid (fun wx (h : Wr wx (w.heap.size + 1 + 1) L2) => show Calls Tryd.prog 35 #[.pointer (some ⟨w.heap.size + 1 + 1, 0, none⟩), V64 a.clock] wx fun e w' => e = .returned (.tuple #[]) ∧ Wr w' (w.heap.size + 1 + 1) L3 ∧ Below (w.heap.size + 1 + 1) wx w' ∧ KeptW (w.heap.size + 1 + 1) wx w' from by rw [hL3]; exact wnumber_any _ L2 a.clock wx (by omega) h hta.2.2.2.1)
  have Hres := Lib.hid (show L3 = P.tellB x.op x.client x.number a 0 by rw [hop]; unfold P.tellB P.tailB; simp only [hL3, hL2, hL1, hL0, hop]; simp)
  clear hL3 hL2 hL1
  have t5 : ((x.op : Int) == 5) = false := beq_eq_false_iff_ne.2 (by omega)
  have t6 : ((x.op : Int) == 6) = false := beq_eq_false_iff_ne.2 (by omega)
  have t7 : ((x.op : Int) == 7) = false := beq_eq_false_iff_ne.2 (by omega)
  have t10 : ((x.op : Int) == 10) = false := beq_eq_false_iff_ne.2 (by omega)
  have t11 : ((x.op : Int) == 11) = false := beq_eq_false_iff_ne.2 (by omega)
  have t12 : ((x.op : Int) == 12) = false := beq_eq_false_iff_ne.2 (by omega)
  have t13 : ((x.op : Int) == 13) = false := beq_eq_false_iff_ne.2 (by omega)
  have t14 : ((x.op : Int) == 14) = false := beq_eq_false_iff_ne.2 (by omega)
  have t15 : ((x.op : Int) == 15) = true := beq_iff_eq.2 (by omega)
  clear hop
  go_enter Tryd.func21, Tryd.ntmps21
  go_upto_region 2 with fail
  generalize hW : ((w.alloc (.cells #[.int .u8 (x.op : Nat), .int .u8 (x.client : Nat), V64 x.number, .int .u8 (x.p.a.fam : Nat), V64 x.p.a.hi, V64 x.p.a.lo, .int .i64 x.p.bits, .int .u8 (x.a.fam : Nat), V64 x.a.hi, V64 x.a.lo, S x.owner, S x.to, V64 x.d, V64 x.fr, .int .i64 x.n] 28)).alloc (.cells #[.int .u8 (a.a.fam : Nat), V64 a.a.hi, V64 a.a.lo, S a.owner, V64 a.til, .int .u8 (a.pool.a.fam : Nat), V64 a.pool.a.hi, V64 a.pool.a.lo, .int .i64 a.pool.bits, .bool a.has, .bool a.held, .bool a.live, V64 a.clock, .slice r a.rows.length rc, .slice v a.events.length vc, .slice p a.pools.length pc] 36)).alloc (.cells #[.slice none 0 0] 87) = w1 at *
  clear hW
  have hW0 : Wr w1 (w.heap.size + 1 + 1) L0 := by rw [hL0]; exact ⟨none, 0, hwb, own_nil _ _⟩
  clear hwb
  go_wp2_with (first
    | (go_at_call 36; (with_reducible refine (H1.out _ hW0).mono ?_); rintro e w2 ⟨rfl, hW1, hb1, -⟩; have hc1 := hc.below hb1 (by omega); have ha1 := ha.below hb1 (by omega); have hA1 := hA.trans (hb1.mono (by omega)); obtain ⟨⟨c0, c1, c2, c3, c4, c5, c6, c7, c8, c9, c10, c11, c12, c13, c14⟩, -⟩ := hc1.cells15; skip)
    | (go_at_call 31; (with_reducible refine (H2.out _ hW1).mono ?_); rintro e w3 ⟨rfl, hW2, hb2, -⟩; have hc2 := hc1.below hb2 (by omega); have ha2 := ha1.below hb2 (by omega); have hA2 := hA1.trans (hb2.mono (by omega)); obtain ⟨⟨c0, -, -, -, -, -, -, -, -, -, -, -, -, -, -⟩, -⟩ := hc2.cells15; obtain ⟨⟨-, -, -, -, -, -, -, -, -, -, -, -, a12, -, -, -⟩, -⟩ := ha2.cells16; skip)
    | (go_at_call 35; (with_reducible refine (H3.out _ hW2).mono ?_); rintro e w4 ⟨rfl, hW3, hb3, -⟩; have hc3 := hc2.below hb3 (by omega); have ha3 := ha2.below hb3 (by omega); have hA3 := hA2.trans (hb3.mono (by omega)); obtain ⟨sa, sc, hwx, hwo⟩ := hW3; have q0 := hwx.cell 0; skip)
    | (refine wpList_conv_own (by rfl) hwo ?_))
  go_ret
  exact ⟨by rw [Hres.out]; rfl, hA3⟩
set_option maxRecDepth 100000 in
set_option maxHeartbeats 8000000 in
theorem tell_other (x : P.Ca) (a : P.An) (r : Option Addr) (rc : Nat) (v : Option Addr) (vc : Nat) (p : Option Addr) (pc : Nat) (ht : P.tyC x) (hta : P.tyAn a) (hop : ¬ (5 ≤ x.op ∧ x.op ≤ 7) ∧ ¬ (10 ≤ x.op ∧ x.op ≤ 15)) (w : World) :
    Calls Tryd.prog 21 #[caV x, anV a r rc v vc p pc, .int .i64 0] w fun e' w' => e' = .returned (S (P.tellB x.op x.client x.number a 0)) ∧ Below w.heap.size w w' := by
  obtain ⟨hc, ha, hwb, hA⟩ := three_bx w #[.int .u8 (x.op : Nat), .int .u8 (x.client : Nat), V64 x.number, .int .u8 (x.p.a.fam : Nat), V64 x.p.a.hi, V64 x.p.a.lo, .int .i64 x.p.bits, .int .u8 (x.a.fam : Nat), V64 x.a.hi, V64 x.a.lo, S x.owner, S x.to, V64 x.d, V64 x.fr, .int .i64 x.n] #[.int .u8 (a.a.fam : Nat), V64 a.a.hi, V64 a.a.lo, S a.owner, V64 a.til, .int .u8 (a.pool.a.fam : Nat), V64 a.pool.a.hi, V64 a.pool.a.lo, .int .i64 a.pool.bits, .bool a.has, .bool a.held, .bool a.live, V64 a.clock, .slice r a.rows.length rc, .slice v a.events.length vc, .slice p a.pools.length pc] #[.slice none 0 0] 28 36 87
  obtain ⟨L0, hL0⟩ : ∃ L : List UInt8, L = [] := ⟨_, rfl⟩
  have hl0 : L0.length ≤ 0 := by rw [hL0]; exact Nat.le_refl _
  obtain ⟨L1, hL1⟩ : ∃ L, L = L0 ++ [P.byI 0] := ⟨_, rfl⟩
  have hl1 : L1.length ≤ 1 := by rw [hL1, List.length_append]; simp only [List.length_singleton]; omega
  have H1 := Lib.hid (fun wx (h : Wr wx (w.heap.size + 1 + 1) L0) => show Calls Tryd.prog 36 #[.pointer (some ⟨w.heap.size + 1 + 1, 0, none⟩), .int .i64 0] wx fun e w' => e = .returned (.tuple #[]) ∧ Wr w' (w.heap.size + 1 + 1) L1 ∧ Below (w.heap.size + 1 + 1) wx w' ∧ KeptW (w.heap.size + 1 + 1) wx w' from by rw [hL1]; exact wbyte_any _ L0 0 wx (by omega) h)
  obtain ⟨L2, hL2⟩ : ∃ L, L = L1 ++ P.headB x.op x.client x.number := ⟨_, rfl⟩
  have hl2 : L2.length ≤ 11 := by rw [hL2, List.length_append]; have := P.headB_len x.op x.client x.number; omega
  have H2 := Lib.hid (fun wx (h : Wr wx (w.heap.size + 1 + 1) L1) => show Calls Tryd.prog 31 #[.pointer (some ⟨w.heap.size + 1 + 1, 0, none⟩), caV x] wx fun e w' => e = .returned (.tuple #[]) ∧ Wr w' (w.heap.size + 1 + 1) L2 ∧ Below (w.heap.size + 1 + 1) wx w' ∧ KeptW (w.heap.size + 1 + 1) wx w' from by rw [hL2]; exact whead_any _ L1 x wx (by omega) h ht.1 ht.2.1 ht.2.2.1)
  have Hres := Lib.hid (show L2 = P.tellB x.op x.client x.number a 0 by unfold P.tellB P.tailB; rw [if_pos rfl, if_neg hop.1, if_neg (by omega), if_neg (by omega), if_neg (by omega), if_neg (by omega), if_neg (by omega), hL2, hL1, hL0]; simp)
  clear hL2 hL1
  have t5 : ((x.op : Int) == 5) = false := beq_eq_false_iff_ne.2 (by omega)
  have t6 : ((x.op : Int) == 6) = false := beq_eq_false_iff_ne.2 (by omega)
  have t7 : ((x.op : Int) == 7) = false := beq_eq_false_iff_ne.2 (by omega)
  have t10 : ((x.op : Int) == 10) = false := beq_eq_false_iff_ne.2 (by omega)
  have t11 : ((x.op : Int) == 11) = false := beq_eq_false_iff_ne.2 (by omega)
  have t12 : ((x.op : Int) == 12) = false := beq_eq_false_iff_ne.2 (by omega)
  have t13 : ((x.op : Int) == 13) = false := beq_eq_false_iff_ne.2 (by omega)
  have t14 : ((x.op : Int) == 14) = false := beq_eq_false_iff_ne.2 (by omega)
  have t15 : ((x.op : Int) == 15) = false := beq_eq_false_iff_ne.2 (by omega)
  clear hop
  go_enter Tryd.func21, Tryd.ntmps21
  go_upto_region 2 with fail
  generalize hW : ((w.alloc (.cells #[.int .u8 (x.op : Nat), .int .u8 (x.client : Nat), V64 x.number, .int .u8 (x.p.a.fam : Nat), V64 x.p.a.hi, V64 x.p.a.lo, .int .i64 x.p.bits, .int .u8 (x.a.fam : Nat), V64 x.a.hi, V64 x.a.lo, S x.owner, S x.to, V64 x.d, V64 x.fr, .int .i64 x.n] 28)).alloc (.cells #[.int .u8 (a.a.fam : Nat), V64 a.a.hi, V64 a.a.lo, S a.owner, V64 a.til, .int .u8 (a.pool.a.fam : Nat), V64 a.pool.a.hi, V64 a.pool.a.lo, .int .i64 a.pool.bits, .bool a.has, .bool a.held, .bool a.live, V64 a.clock, .slice r a.rows.length rc, .slice v a.events.length vc, .slice p a.pools.length pc] 36)).alloc (.cells #[.slice none 0 0] 87) = w1 at *
  clear hW
  have hW0 : Wr w1 (w.heap.size + 1 + 1) L0 := by rw [hL0]; exact ⟨none, 0, hwb, own_nil _ _⟩
  clear hwb
  go_wp2_with (first
    | (go_at_call 36; (with_reducible refine (H1.out _ hW0).mono ?_); rintro e w2 ⟨rfl, hW1, hb1, -⟩; have hc1 := hc.below hb1 (by omega); have ha1 := ha.below hb1 (by omega); have hA1 := hA.trans (hb1.mono (by omega)); obtain ⟨⟨c0, c1, c2, c3, c4, c5, c6, c7, c8, c9, c10, c11, c12, c13, c14⟩, -⟩ := hc1.cells15; skip)
    | (go_at_call 31; (with_reducible refine (H2.out _ hW1).mono ?_); rintro e w3 ⟨rfl, hW2, hb2, -⟩; have hc2 := hc1.below hb2 (by omega); have ha2 := ha1.below hb2 (by omega); have hA2 := hA1.trans (hb2.mono (by omega)); obtain ⟨⟨c0, -, -, -, -, -, -, -, -, -, -, -, -, -, -⟩, -⟩ := hc2.cells15; obtain ⟨sa, sc, hwx, hwo⟩ := hW2; have q0 := hwx.cell 0; skip)
    | (refine wpList_conv_own (by rfl) hwo ?_))
  go_ret
  exact ⟨by rw [Hres.out]; rfl, hA2⟩
set_option maxRecDepth 100000 in
set_option maxHeartbeats 8000000 in
theorem tell_rows0 (x : P.Ca) (a : P.An) (r : Option Addr) (rc : Nat) (v : Option Addr) (vc : Nat) (p : Option Addr) (pc : Nat) (ht : P.tyC x) (hta : P.tyAn a) (hn : a.rows.length ≤ 40) (hos : ∀ y ∈ a.rows, y.owner.length ≤ 2000) (hop : x.op = 11) (w : World) (hr : a.rows.length = 0) :
    Calls Tryd.prog 21 #[caV x, anV a r rc v vc p pc, .int .i64 0] w fun e' w' => e' = .returned (S (P.tellB x.op x.client x.number a 0)) ∧ Below w.heap.size w w' := by
  obtain ⟨hc, ha, hwb, hA⟩ := three_bx w #[.int .u8 (x.op : Nat), .int .u8 (x.client : Nat), V64 x.number, .int .u8 (x.p.a.fam : Nat), V64 x.p.a.hi, V64 x.p.a.lo, .int .i64 x.p.bits, .int .u8 (x.a.fam : Nat), V64 x.a.hi, V64 x.a.lo, S x.owner, S x.to, V64 x.d, V64 x.fr, .int .i64 x.n] #[.int .u8 (a.a.fam : Nat), V64 a.a.hi, V64 a.a.lo, S a.owner, V64 a.til, .int .u8 (a.pool.a.fam : Nat), V64 a.pool.a.hi, V64 a.pool.a.lo, .int .i64 a.pool.bits, .bool a.has, .bool a.held, .bool a.live, V64 a.clock, .slice r a.rows.length rc, .slice v a.events.length vc, .slice p a.pools.length pc] #[.slice none 0 0] 28 36 87
  obtain ⟨L0, hL0⟩ : ∃ L : List UInt8, L = [] := ⟨_, rfl⟩
  have hl0 : L0.length ≤ 0 := by rw [hL0]; exact Nat.le_refl _
  have Hr := Lib.hid hr
  clear hr
  obtain ⟨L1, hL1⟩ : ∃ L, L = L0 ++ [P.byI 0] := ⟨_, rfl⟩
  have hl1 : L1.length ≤ 1 := by rw [hL1, List.length_append]; simp only [List.length_singleton]; omega
  have H1 := Lib.hid (fun wx (h : Wr wx (w.heap.size + 1 + 1) L0) => show Calls Tryd.prog 36 #[.pointer (some ⟨w.heap.size + 1 + 1, 0, none⟩), .int .i64 0] wx fun e w' => e = .returned (.tuple #[]) ∧ Wr w' (w.heap.size + 1 + 1) L1 ∧ Below (w.heap.size + 1 + 1) wx w' ∧ KeptW (w.heap.size + 1 + 1) wx w' from by rw [hL1]; exact wbyte_any _ L0 0 wx (by omega) h)
  obtain ⟨L2, hL2⟩ : ∃ L, L = L1 ++ P.headB x.op x.client x.number := ⟨_, rfl⟩
  have hl2 : L2.length ≤ 11 := by rw [hL2, List.length_append]; have := P.headB_len x.op x.client x.number; omega
  have H2 := Lib.hid (fun wx (h : Wr wx (w.heap.size + 1 + 1) L1) => show Calls Tryd.prog 31 #[.pointer (some ⟨w.heap.size + 1 + 1, 0, none⟩), caV x] wx fun e w' => e = .returned (.tuple #[]) ∧ Wr w' (w.heap.size + 1 + 1) L2 ∧ Below (w.heap.size + 1 + 1) wx w' ∧ KeptW (w.heap.size + 1 + 1) wx w' from by rw [hL2]; exact whead_any _ L1 x wx (by omega) h ht.1 ht.2.1 ht.2.2.1)
  obtain ⟨L3, hL3⟩ : ∃ L, L = L2 ++ [P.byI (a.rows.length : Int)] := ⟨_, rfl⟩
  have hl3 : L3.length ≤ 12 := by rw [hL3, List.length_append]; simp only [List.length_singleton]; omega
  have H3 := Lib.hid (fun wx (h : Wr wx (w.heap.size + 1 + 1) L2) => show Calls Tryd.prog 36 #[.pointer (some ⟨w.heap.size + 1 + 1, 0, none⟩), .int .i64 (a.rows.length : Int)] wx fun e w' => e = .returned (.tuple #[]) ∧ Wr w' (w.heap.size + 1 + 1) L3 ∧ Below (w.heap.size + 1 + 1) wx w' ∧ KeptW (w.heap.size + 1 + 1) wx w' from by rw [hL3]; exact wbyte_any _ L2 (a.rows.length : Int) wx (by omega) h)
  have Hres := Lib.hid (show L3 ++ (a.rows.take a.rows.length).flatMap P.rwB = P.tellB x.op x.client x.number a 0 by rw [List.take_length, hL3, hL2, hL1, hL0]; unfold P.tellB P.tailB; simp only [hop]; simp)
  clear hL3 hL2 hL1
  have t5 : ((x.op : Int) == 5) = false := beq_eq_false_iff_ne.2 (by omega)
  have t6 : ((x.op : Int) == 6) = false := beq_eq_false_iff_ne.2 (by omega)
  have t7 : ((x.op : Int) == 7) = false := beq_eq_false_iff_ne.2 (by omega)
  have t10 : ((x.op : Int) == 10) = false := beq_eq_false_iff_ne.2 (by omega)
  have t11 : ((x.op : Int) == 11) = true := beq_iff_eq.2 (by omega)
  clear hop
  go_enter Tryd.func21, Tryd.ntmps21
  go_upto_region 2 with fail
  generalize hW : ((w.alloc (.cells #[.int .u8 (x.op : Nat), .int .u8 (x.client : Nat), V64 x.number, .int .u8 (x.p.a.fam : Nat), V64 x.p.a.hi, V64 x.p.a.lo, .int .i64 x.p.bits, .int .u8 (x.a.fam : Nat), V64 x.a.hi, V64 x.a.lo, S x.owner, S x.to, V64 x.d, V64 x.fr, .int .i64 x.n] 28)).alloc (.cells #[.int .u8 (a.a.fam : Nat), V64 a.a.hi, V64 a.a.lo, S a.owner, V64 a.til, .int .u8 (a.pool.a.fam : Nat), V64 a.pool.a.hi, V64 a.pool.a.lo, .int .i64 a.pool.bits, .bool a.has, .bool a.held, .bool a.live, V64 a.clock, .slice r a.rows.length rc, .slice v a.events.length vc, .slice p a.pools.length pc] 36)).alloc (.cells #[.slice none 0 0] 87) = w1 at *
  clear hW
  have hW0 : Wr w1 (w.heap.size + 1 + 1) L0 := by rw [hL0]; exact ⟨none, 0, hwb, own_nil _ _⟩
  clear hwb
  go_wp2_with (first
    | (go_at_call 36; (with_reducible refine (H1.out _ hW0).mono ?_); rintro e w2 ⟨rfl, hW1, hb1, -⟩; have hc1 := hc.below hb1 (by omega); have ha1 := ha.below hb1 (by omega); have hA1 := hA.trans (hb1.mono (by omega)); obtain ⟨⟨c0, c1, c2, c3, c4, c5, c6, c7, c8, c9, c10, c11, c12, c13, c14⟩, -⟩ := hc1.cells15; skip)
    | (go_at_call 31; (with_reducible refine (H2.out _ hW1).mono ?_); rintro e w3 ⟨rfl, hW2, hb2, -⟩; have hc2 := hc1.below hb2 (by omega); have ha2 := ha1.below hb2 (by omega); have hA2 := hA1.trans (hb2.mono (by omega)); obtain ⟨⟨c0, -, -, -, -, -, -, -, -, -, -, -, -, -, -⟩, -⟩ := hc2.cells15; obtain ⟨⟨-, -, -, -, -, -, -, -, -, -, -, -, -, a13, -, -⟩, -⟩ := ha2.cells16; skip)
    | (go_at_call 36; (with_reducible refine (H3.out _ hW2).mono ?_); rintro e w4 ⟨rfl, hW3, hb3, -⟩; have hc3 := hc2.below hb3 (by omega); have ha3 := ha2.below hb3 (by omega); have hA3 := hA2.trans (hb3.mono (by omega)); obtain ⟨⟨-, -, -, -, -, -, -, -, -, -, -, -, -, a13, -, -⟩, -⟩ := ha3.cells16; skip))
  clear hc ha hA hc1 ha1 hA1 hc2 ha2 hA2 hW0 hW1 hW2 hb1 hb2 hb3 H1 H2 H3 hc3 ha3
  have hG : w.heap.size + 1 + 1 < w4.heap.size := hW3.lt
  go_loopw [9, 58] (fun _ i wr => ∃ j : Nat, j ≤ a.rows.length ∧ i = .int .i64 (j : Int) ∧ Wr wr (w.heap.size + 1 + 1) (L3 ++ (a.rows.take j).flatMap P.rwB) ∧ Below w.heap.size w wr) (fun _ i _ => a.rows.length - (intOf i).toNat)
  case atStart => exact ⟨0, by omega, rfl, by simpa using hW3, hA3⟩
  case round =>
    clear hW3 hA3 hG
    obtain ⟨j, hj, rfl, hW, hb⟩ := hrel
    have hG : w.heap.size + 1 + 1 < wr.heap.size := hW.lt
    by_cases hjn : j < a.rows.length
    · exact absurd hjn (by have := Hr.out; omega)
    · have hji : decide ((j : Int) < (a.rows.length : Int)) = false := decide_eq_false (by omega)
      obtain rfl : j = a.rows.length := by omega
      rw [Hres.out] at hW
      obtain ⟨sa, sc, hwx, hwo⟩ := hW
      have q0 := hwx.cell 0
      go_wp2_with (refine wpList_conv_own (by rfl) hwo ?_)
      go_ret
      exact ⟨rfl, hb⟩
set_option maxRecDepth 100000 in
set_option maxHeartbeats 8000000 in
theorem tell_events0 (x : P.Ca) (a : P.An) (r : Option Addr) (rc : Nat) (v : Option Addr) (vc : Nat) (p : Option Addr) (pc : Nat) (ht : P.tyC x) (hta : P.tyAn a) (hn : a.events.length ≤ 40) (hos : ∀ y ∈ a.events, y.owner.length ≤ 2000) (hop : x.op = 12) (w : World) (hr : a.events.length = 0) :
    Calls Tryd.prog 21 #[caV x, anV a r rc v vc p pc, .int .i64 0] w fun e' w' => e' = .returned (S (P.tellB x.op x.client x.number a 0)) ∧ Below w.heap.size w w' := by
  obtain ⟨hc, ha, hwb, hA⟩ := three_bx w #[.int .u8 (x.op : Nat), .int .u8 (x.client : Nat), V64 x.number, .int .u8 (x.p.a.fam : Nat), V64 x.p.a.hi, V64 x.p.a.lo, .int .i64 x.p.bits, .int .u8 (x.a.fam : Nat), V64 x.a.hi, V64 x.a.lo, S x.owner, S x.to, V64 x.d, V64 x.fr, .int .i64 x.n] #[.int .u8 (a.a.fam : Nat), V64 a.a.hi, V64 a.a.lo, S a.owner, V64 a.til, .int .u8 (a.pool.a.fam : Nat), V64 a.pool.a.hi, V64 a.pool.a.lo, .int .i64 a.pool.bits, .bool a.has, .bool a.held, .bool a.live, V64 a.clock, .slice r a.rows.length rc, .slice v a.events.length vc, .slice p a.pools.length pc] #[.slice none 0 0] 28 36 87
  obtain ⟨L0, hL0⟩ : ∃ L : List UInt8, L = [] := ⟨_, rfl⟩
  have hl0 : L0.length ≤ 0 := by rw [hL0]; exact Nat.le_refl _
  have Hr := Lib.hid hr
  clear hr
  obtain ⟨L1, hL1⟩ : ∃ L, L = L0 ++ [P.byI 0] := ⟨_, rfl⟩
  have hl1 : L1.length ≤ 1 := by rw [hL1, List.length_append]; simp only [List.length_singleton]; omega
  have H1 := Lib.hid (fun wx (h : Wr wx (w.heap.size + 1 + 1) L0) => show Calls Tryd.prog 36 #[.pointer (some ⟨w.heap.size + 1 + 1, 0, none⟩), .int .i64 0] wx fun e w' => e = .returned (.tuple #[]) ∧ Wr w' (w.heap.size + 1 + 1) L1 ∧ Below (w.heap.size + 1 + 1) wx w' ∧ KeptW (w.heap.size + 1 + 1) wx w' from by rw [hL1]; exact wbyte_any _ L0 0 wx (by omega) h)
  obtain ⟨L2, hL2⟩ : ∃ L, L = L1 ++ P.headB x.op x.client x.number := ⟨_, rfl⟩
  have hl2 : L2.length ≤ 11 := by rw [hL2, List.length_append]; have := P.headB_len x.op x.client x.number; omega
  have H2 := Lib.hid (fun wx (h : Wr wx (w.heap.size + 1 + 1) L1) => show Calls Tryd.prog 31 #[.pointer (some ⟨w.heap.size + 1 + 1, 0, none⟩), caV x] wx fun e w' => e = .returned (.tuple #[]) ∧ Wr w' (w.heap.size + 1 + 1) L2 ∧ Below (w.heap.size + 1 + 1) wx w' ∧ KeptW (w.heap.size + 1 + 1) wx w' from by rw [hL2]; exact whead_any _ L1 x wx (by omega) h ht.1 ht.2.1 ht.2.2.1)
  obtain ⟨L3, hL3⟩ : ∃ L, L = L2 ++ [P.byI (a.events.length : Int)] := ⟨_, rfl⟩
  have hl3 : L3.length ≤ 12 := by rw [hL3, List.length_append]; simp only [List.length_singleton]; omega
  have H3 := Lib.hid (fun wx (h : Wr wx (w.heap.size + 1 + 1) L2) => show Calls Tryd.prog 36 #[.pointer (some ⟨w.heap.size + 1 + 1, 0, none⟩), .int .i64 (a.events.length : Int)] wx fun e w' => e = .returned (.tuple #[]) ∧ Wr w' (w.heap.size + 1 + 1) L3 ∧ Below (w.heap.size + 1 + 1) wx w' ∧ KeptW (w.heap.size + 1 + 1) wx w' from by rw [hL3]; exact wbyte_any _ L2 (a.events.length : Int) wx (by omega) h)
  have Hres := Lib.hid (show L3 ++ (a.events.take a.events.length).flatMap P.evB = P.tellB x.op x.client x.number a 0 by rw [List.take_length, hL3, hL2, hL1, hL0]; unfold P.tellB P.tailB; simp only [hop]; simp)
  clear hL3 hL2 hL1
  have t5 : ((x.op : Int) == 5) = false := beq_eq_false_iff_ne.2 (by omega)
  have t6 : ((x.op : Int) == 6) = false := beq_eq_false_iff_ne.2 (by omega)
  have t7 : ((x.op : Int) == 7) = false := beq_eq_false_iff_ne.2 (by omega)
  have t10 : ((x.op : Int) == 10) = false := beq_eq_false_iff_ne.2 (by omega)
  have t11 : ((x.op : Int) == 11) = false := beq_eq_false_iff_ne.2 (by omega)
  have t12 : ((x.op : Int) == 12) = true := beq_iff_eq.2 (by omega)
  clear hop
  go_enter Tryd.func21, Tryd.ntmps21
  go_upto_region 2 with fail
  generalize hW : ((w.alloc (.cells #[.int .u8 (x.op : Nat), .int .u8 (x.client : Nat), V64 x.number, .int .u8 (x.p.a.fam : Nat), V64 x.p.a.hi, V64 x.p.a.lo, .int .i64 x.p.bits, .int .u8 (x.a.fam : Nat), V64 x.a.hi, V64 x.a.lo, S x.owner, S x.to, V64 x.d, V64 x.fr, .int .i64 x.n] 28)).alloc (.cells #[.int .u8 (a.a.fam : Nat), V64 a.a.hi, V64 a.a.lo, S a.owner, V64 a.til, .int .u8 (a.pool.a.fam : Nat), V64 a.pool.a.hi, V64 a.pool.a.lo, .int .i64 a.pool.bits, .bool a.has, .bool a.held, .bool a.live, V64 a.clock, .slice r a.rows.length rc, .slice v a.events.length vc, .slice p a.pools.length pc] 36)).alloc (.cells #[.slice none 0 0] 87) = w1 at *
  clear hW
  have hW0 : Wr w1 (w.heap.size + 1 + 1) L0 := by rw [hL0]; exact ⟨none, 0, hwb, own_nil _ _⟩
  clear hwb
  go_wp2_with (first
    | (go_at_call 36; (with_reducible refine (H1.out _ hW0).mono ?_); rintro e w2 ⟨rfl, hW1, hb1, -⟩; have hc1 := hc.below hb1 (by omega); have ha1 := ha.below hb1 (by omega); have hA1 := hA.trans (hb1.mono (by omega)); obtain ⟨⟨c0, c1, c2, c3, c4, c5, c6, c7, c8, c9, c10, c11, c12, c13, c14⟩, -⟩ := hc1.cells15; skip)
    | (go_at_call 31; (with_reducible refine (H2.out _ hW1).mono ?_); rintro e w3 ⟨rfl, hW2, hb2, -⟩; have hc2 := hc1.below hb2 (by omega); have ha2 := ha1.below hb2 (by omega); have hA2 := hA1.trans (hb2.mono (by omega)); obtain ⟨⟨c0, -, -, -, -, -, -, -, -, -, -, -, -, -, -⟩, -⟩ := hc2.cells15; obtain ⟨⟨-, -, -, -, -, -, -, -, -, -, -, -, -, -, a14, -⟩, -⟩ := ha2.cells16; skip)
    | (go_at_call 36; (with_reducible refine (H3.out _ hW2).mono ?_); rintro e w4 ⟨rfl, hW3, hb3, -⟩; have hc3 := hc2.below hb3 (by omega); have ha3 := ha2.below hb3 (by omega); have hA3 := hA2.trans (hb3.mono (by omega)); obtain ⟨⟨-, -, -, -, -, -, -, -, -, -, -, -, -, -, a14, -⟩, -⟩ := ha3.cells16; skip))
  clear hc ha hA hc1 ha1 hA1 hc2 ha2 hA2 hW0 hW1 hW2 hb1 hb2 hb3 H1 H2 H3 hc3 ha3
  have hG : w.heap.size + 1 + 1 < w4.heap.size := hW3.lt
  go_loopw [11, 81] (fun _ i wr => ∃ j : Nat, j ≤ a.events.length ∧ i = .int .i64 (j : Int) ∧ Wr wr (w.heap.size + 1 + 1) (L3 ++ (a.events.take j).flatMap P.evB) ∧ Below w.heap.size w wr) (fun _ i _ => a.events.length - (intOf i).toNat)
  case atStart => exact ⟨0, by omega, rfl, by simpa using hW3, hA3⟩
  case round =>
    clear hW3 hA3 hG
    obtain ⟨j, hj, rfl, hW, hb⟩ := hrel
    have hG : w.heap.size + 1 + 1 < wr.heap.size := hW.lt
    by_cases hjn : j < a.events.length
    · exact absurd hjn (by have := Hr.out; omega)
    · have hji : decide ((j : Int) < (a.events.length : Int)) = false := decide_eq_false (by omega)
      obtain rfl : j = a.events.length := by omega
      rw [Hres.out] at hW
      obtain ⟨sa, sc, hwx, hwo⟩ := hW
      have q0 := hwx.cell 0
      go_wp2_with (refine wpList_conv_own (by rfl) hwo ?_)
      go_ret
      exact ⟨rfl, hb⟩
set_option maxRecDepth 100000 in
set_option maxHeartbeats 8000000 in
theorem tell_pools0 (x : P.Ca) (a : P.An) (r : Option Addr) (rc : Nat) (v : Option Addr) (vc : Nat) (p : Option Addr) (pc : Nat) (ht : P.tyC x) (hta : P.tyAn a) (hn : a.pools.length ≤ 40) (hop : x.op = 13 ∨ x.op = 14) (w : World) (hr : a.pools.length = 0) :
    Calls Tryd.prog 21 #[caV x, anV a r rc v vc p pc, .int .i64 0] w fun e' w' => e' = .returned (S (P.tellB x.op x.client x.number a 0)) ∧ Below w.heap.size w w' := by
  obtain ⟨hc, ha, hwb, hA⟩ := three_bx w #[.int .u8 (x.op : Nat), .int .u8 (x.client : Nat), V64 x.number, .int .u8 (x.p.a.fam : Nat), V64 x.p.a.hi, V64 x.p.a.lo, .int .i64 x.p.bits, .int .u8 (x.a.fam : Nat), V64 x.a.hi, V64 x.a.lo, S x.owner, S x.to, V64 x.d, V64 x.fr, .int .i64 x.n] #[.int .u8 (a.a.fam : Nat), V64 a.a.hi, V64 a.a.lo, S a.owner, V64 a.til, .int .u8 (a.pool.a.fam : Nat), V64 a.pool.a.hi, V64 a.pool.a.lo, .int .i64 a.pool.bits, .bool a.has, .bool a.held, .bool a.live, V64 a.clock, .slice r a.rows.length rc, .slice v a.events.length vc, .slice p a.pools.length pc] #[.slice none 0 0] 28 36 87
  obtain ⟨L0, hL0⟩ : ∃ L : List UInt8, L = [] := ⟨_, rfl⟩
  have hl0 : L0.length ≤ 0 := by rw [hL0]; exact Nat.le_refl _
  have Hr := Lib.hid hr
  clear hr
  obtain ⟨L1, hL1⟩ : ∃ L, L = L0 ++ [P.byI 0] := ⟨_, rfl⟩
  have hl1 : L1.length ≤ 1 := by rw [hL1, List.length_append]; simp only [List.length_singleton]; omega
  have H1 := Lib.hid (fun wx (h : Wr wx (w.heap.size + 1 + 1) L0) => show Calls Tryd.prog 36 #[.pointer (some ⟨w.heap.size + 1 + 1, 0, none⟩), .int .i64 0] wx fun e w' => e = .returned (.tuple #[]) ∧ Wr w' (w.heap.size + 1 + 1) L1 ∧ Below (w.heap.size + 1 + 1) wx w' ∧ KeptW (w.heap.size + 1 + 1) wx w' from by rw [hL1]; exact wbyte_any _ L0 0 wx (by omega) h)
  obtain ⟨L2, hL2⟩ : ∃ L, L = L1 ++ P.headB x.op x.client x.number := ⟨_, rfl⟩
  have hl2 : L2.length ≤ 11 := by rw [hL2, List.length_append]; have := P.headB_len x.op x.client x.number; omega
  have H2 := Lib.hid (fun wx (h : Wr wx (w.heap.size + 1 + 1) L1) => show Calls Tryd.prog 31 #[.pointer (some ⟨w.heap.size + 1 + 1, 0, none⟩), caV x] wx fun e w' => e = .returned (.tuple #[]) ∧ Wr w' (w.heap.size + 1 + 1) L2 ∧ Below (w.heap.size + 1 + 1) wx w' ∧ KeptW (w.heap.size + 1 + 1) wx w' from by rw [hL2]; exact whead_any _ L1 x wx (by omega) h ht.1 ht.2.1 ht.2.2.1)
  obtain ⟨L3, hL3⟩ : ∃ L, L = L2 ++ [P.byI (a.pools.length : Int)] := ⟨_, rfl⟩
  have hl3 : L3.length ≤ 12 := by rw [hL3, List.length_append]; simp only [List.length_singleton]; omega
  have H3 := Lib.hid (fun wx (h : Wr wx (w.heap.size + 1 + 1) L2) => show Calls Tryd.prog 36 #[.pointer (some ⟨w.heap.size + 1 + 1, 0, none⟩), .int .i64 (a.pools.length : Int)] wx fun e w' => e = .returned (.tuple #[]) ∧ Wr w' (w.heap.size + 1 + 1) L3 ∧ Below (w.heap.size + 1 + 1) wx w' ∧ KeptW (w.heap.size + 1 + 1) wx w' from by rw [hL3]; exact wbyte_any _ L2 (a.pools.length : Int) wx (by omega) h)
  have Hres := Lib.hid (show L3 ++ (a.pools.take a.pools.length).flatMap P.pxX = P.tellB x.op x.client x.number a 0 by rw [List.take_length, hL3, hL2, hL1, hL0]; unfold P.tellB P.tailB; rcases hop with hop | hop <;> (simp only [hop]; simp))
  clear hL3 hL2 hL1
  rcases hop with hop | hop
  · skip
    have t5 : ((x.op : Int) == 5) = false := beq_eq_false_iff_ne.2 (by omega)
    have t6 : ((x.op : Int) == 6) = false := beq_eq_false_iff_ne.2 (by omega)
    have t7 : ((x.op : Int) == 7) = false := beq_eq_false_iff_ne.2 (by omega)
    have t10 : ((x.op : Int) == 10) = false := beq_eq_false_iff_ne.2 (by omega)
    have t11 : ((x.op : Int) == 11) = false := beq_eq_false_iff_ne.2 (by omega)
    have t12 : ((x.op : Int) == 12) = false := beq_eq_false_iff_ne.2 (by omega)
    have t13 : ((x.op : Int) == 13) = true := beq_iff_eq.2 (by omega)
    clear hop
    go_enter Tryd.func21, Tryd.ntmps21
    go_upto_region 2 with fail
    generalize hW : ((w.alloc (.cells #[.int .u8 (x.op : Nat), .int .u8 (x.client : Nat), V64 x.number, .int .u8 (x.p.a.fam : Nat), V64 x.p.a.hi, V64 x.p.a.lo, .int .i64 x.p.bits, .int .u8 (x.a.fam : Nat), V64 x.a.hi, V64 x.a.lo, S x.owner, S x.to, V64 x.d, V64 x.fr, .int .i64 x.n] 28)).alloc (.cells #[.int .u8 (a.a.fam : Nat), V64 a.a.hi, V64 a.a.lo, S a.owner, V64 a.til, .int .u8 (a.pool.a.fam : Nat), V64 a.pool.a.hi, V64 a.pool.a.lo, .int .i64 a.pool.bits, .bool a.has, .bool a.held, .bool a.live, V64 a.clock, .slice r a.rows.length rc, .slice v a.events.length vc, .slice p a.pools.length pc] 36)).alloc (.cells #[.slice none 0 0] 87) = w1 at *
    clear hW
    have hW0 : Wr w1 (w.heap.size + 1 + 1) L0 := by rw [hL0]; exact ⟨none, 0, hwb, own_nil _ _⟩
    clear hwb
    go_wp2_with (first
      | (go_at_call 36; (with_reducible refine (H1.out _ hW0).mono ?_); rintro e w2 ⟨rfl, hW1, hb1, -⟩; have hc1 := hc.below hb1 (by omega); have ha1 := ha.below hb1 (by omega); have hA1 := hA.trans (hb1.mono (by omega)); obtain ⟨⟨c0, c1, c2, c3, c4, c5, c6, c7, c8, c9, c10, c11, c12, c13, c14⟩, -⟩ := hc1.cells15; skip)
      | (go_at_call 31; (with_reducible refine (H2.out _ hW1).mono ?_); rintro e w3 ⟨rfl, hW2, hb2, -⟩; have hc2 := hc1.below hb2 (by omega); have ha2 := ha1.below hb2 (by omega); have hA2 := hA1.trans (hb2.mono (by omega)); obtain ⟨⟨c0, -, -, -, -, -, -, -, -, -, -, -, -, -, -⟩, -⟩ := hc2.cells15; obtain ⟨⟨-, -, -, -, -, -, -, -, -, -, -, -, -, -, -, a15⟩, -⟩ := ha2.cells16; skip)
      | (go_at_call 36; (with_reducible refine (H3.out _ hW2).mono ?_); rintro e w4 ⟨rfl, hW3, hb3, -⟩; have hc3 := hc2.below hb3 (by omega); have ha3 := ha2.below hb3 (by omega); have hA3 := hA2.trans (hb3.mono (by omega)); obtain ⟨⟨-, -, -, -, -, -, -, -, -, -, -, -, -, -, -, a15⟩, -⟩ := ha3.cells16; skip))
    clear hc ha hA hc1 ha1 hA1 hc2 ha2 hA2 hW0 hW1 hW2 hb1 hb2 hb3 H1 H2 H3 hc3 ha3
    have hG : w.heap.size + 1 + 1 < w4.heap.size := hW3.lt
    go_loopw [13, 113] (fun _ i wr => ∃ j : Nat, j ≤ a.pools.length ∧ i = .int .i64 (j : Int) ∧ Wr wr (w.heap.size + 1 + 1) (L3 ++ (a.pools.take j).flatMap P.pxX) ∧ Below w.heap.size w wr) (fun _ i _ => a.pools.length - (intOf i).toNat)
    case atStart => exact ⟨0, by omega, rfl, by simpa using hW3, hA3⟩
    case round =>
      clear hW3 hA3 hG
      obtain ⟨j, hj, rfl, hW, hb⟩ := hrel
      have hG : w.heap.size + 1 + 1 < wr.heap.size := hW.lt
      by_cases hjn : j < a.pools.length
      · exact absurd hjn (by have := Hr.out; omega)
      · have hji : decide ((j : Int) < (a.pools.length : Int)) = false := decide_eq_false (by omega)
        obtain rfl : j = a.pools.length := by omega
        rw [Hres.out] at hW
        obtain ⟨sa, sc, hwx, hwo⟩ := hW
        have q0 := hwx.cell 0
        go_wp2_with (refine wpList_conv_own (by rfl) hwo ?_)
        go_ret
        exact ⟨rfl, hb⟩
  · skip
    have t5 : ((x.op : Int) == 5) = false := beq_eq_false_iff_ne.2 (by omega)
    have t6 : ((x.op : Int) == 6) = false := beq_eq_false_iff_ne.2 (by omega)
    have t7 : ((x.op : Int) == 7) = false := beq_eq_false_iff_ne.2 (by omega)
    have t10 : ((x.op : Int) == 10) = false := beq_eq_false_iff_ne.2 (by omega)
    have t11 : ((x.op : Int) == 11) = false := beq_eq_false_iff_ne.2 (by omega)
    have t12 : ((x.op : Int) == 12) = false := beq_eq_false_iff_ne.2 (by omega)
    have t13 : ((x.op : Int) == 13) = false := beq_eq_false_iff_ne.2 (by omega)
    have t14 : ((x.op : Int) == 14) = true := beq_iff_eq.2 (by omega)
    clear hop
    go_enter Tryd.func21, Tryd.ntmps21
    go_upto_region 2 with fail
    generalize hW : ((w.alloc (.cells #[.int .u8 (x.op : Nat), .int .u8 (x.client : Nat), V64 x.number, .int .u8 (x.p.a.fam : Nat), V64 x.p.a.hi, V64 x.p.a.lo, .int .i64 x.p.bits, .int .u8 (x.a.fam : Nat), V64 x.a.hi, V64 x.a.lo, S x.owner, S x.to, V64 x.d, V64 x.fr, .int .i64 x.n] 28)).alloc (.cells #[.int .u8 (a.a.fam : Nat), V64 a.a.hi, V64 a.a.lo, S a.owner, V64 a.til, .int .u8 (a.pool.a.fam : Nat), V64 a.pool.a.hi, V64 a.pool.a.lo, .int .i64 a.pool.bits, .bool a.has, .bool a.held, .bool a.live, V64 a.clock, .slice r a.rows.length rc, .slice v a.events.length vc, .slice p a.pools.length pc] 36)).alloc (.cells #[.slice none 0 0] 87) = w1 at *
    clear hW
    have hW0 : Wr w1 (w.heap.size + 1 + 1) L0 := by rw [hL0]; exact ⟨none, 0, hwb, own_nil _ _⟩
    clear hwb
    go_wp2_with (first
      | (go_at_call 36; (with_reducible refine (H1.out _ hW0).mono ?_); rintro e w2 ⟨rfl, hW1, hb1, -⟩; have hc1 := hc.below hb1 (by omega); have ha1 := ha.below hb1 (by omega); have hA1 := hA.trans (hb1.mono (by omega)); obtain ⟨⟨c0, c1, c2, c3, c4, c5, c6, c7, c8, c9, c10, c11, c12, c13, c14⟩, -⟩ := hc1.cells15; skip)
      | (go_at_call 31; (with_reducible refine (H2.out _ hW1).mono ?_); rintro e w3 ⟨rfl, hW2, hb2, -⟩; have hc2 := hc1.below hb2 (by omega); have ha2 := ha1.below hb2 (by omega); have hA2 := hA1.trans (hb2.mono (by omega)); obtain ⟨⟨c0, -, -, -, -, -, -, -, -, -, -, -, -, -, -⟩, -⟩ := hc2.cells15; obtain ⟨⟨-, -, -, -, -, -, -, -, -, -, -, -, -, -, -, a15⟩, -⟩ := ha2.cells16; skip)
      | (go_at_call 36; (with_reducible refine (H3.out _ hW2).mono ?_); rintro e w4 ⟨rfl, hW3, hb3, -⟩; have hc3 := hc2.below hb3 (by omega); have ha3 := ha2.below hb3 (by omega); have hA3 := hA2.trans (hb3.mono (by omega)); obtain ⟨⟨-, -, -, -, -, -, -, -, -, -, -, -, -, -, -, a15⟩, -⟩ := ha3.cells16; skip))
    clear hc ha hA hc1 ha1 hA1 hc2 ha2 hA2 hW0 hW1 hW2 hb1 hb2 hb3 H1 H2 H3 hc3 ha3
    have hG : w.heap.size + 1 + 1 < w4.heap.size := hW3.lt
    go_loopw [13, 113] (fun _ i wr => ∃ j : Nat, j ≤ a.pools.length ∧ i = .int .i64 (j : Int) ∧ Wr wr (w.heap.size + 1 + 1) (L3 ++ (a.pools.take j).flatMap P.pxX) ∧ Below w.heap.size w wr) (fun _ i _ => a.pools.length - (intOf i).toNat)
    case atStart => exact ⟨0, by omega, rfl, by simpa using hW3, hA3⟩
    case round =>
      clear hW3 hA3 hG
      obtain ⟨j, hj, rfl, hW, hb⟩ := hrel
      have hG : w.heap.size + 1 + 1 < wr.heap.size := hW.lt
      by_cases hjn : j < a.pools.length
      · exact absurd hjn (by have := Hr.out; omega)
      · have hji : decide ((j : Int) < (a.pools.length : Int)) = false := decide_eq_false (by omega)
        obtain rfl : j = a.pools.length := by omega
        rw [Hres.out] at hW
        obtain ⟨sa, sc, hwx, hwo⟩ := hW
        have q0 := hwx.cell 0
        go_wp2_with (refine wpList_conv_own (by rfl) hwo ?_)
        go_ret
        exact ⟨rfl, hb⟩
end Go.Proofs.YtcobfoiajdbahaaDoor

namespace Go.Proofs.YtcobfoiajdbahaaDoor
open Go.RowKit
set_option linter.unusedVariables false
set_option linter.unusedSimpArgs false
set_option maxRecDepth 100000 in
set_option maxHeartbeats 8000000 in
theorem tell_rows (x : P.Ca) (a : P.An) (r : Option Addr) (rc : Nat) (v : Option Addr) (vc : Nat) (p : Option Addr) (pc : Nat) (ht : P.tyC x) (hta : P.tyAn a) (hn : a.rows.length ≤ 40) (hos : ∀ y ∈ a.rows, y.owner.length ≤ 2000) (hop : x.op = 11) (w : World) (b o : Nat) (hr : r = some ⟨b, o, none⟩) (hat : RowsAt 5 rwC w r a.rows) :
    Calls Tryd.prog 21 #[caV x, anV a r rc v vc p pc, .int .i64 0] w fun e' w' => e' = .returned (S (P.tellB x.op x.client x.number a 0)) ∧ Below w.heap.size w w' := by
  obtain ⟨hc, ha, hwb, hA⟩ := three_bx w #[.int .u8 (x.op : Nat), .int .u8 (x.client : Nat), V64 x.number, .int .u8 (x.p.a.fam : Nat), V64 x.p.a.hi, V64 x.p.a.lo, .int .i64 x.p.bits, .int .u8 (x.a.fam : Nat), V64 x.a.hi, V64 x.a.lo, S x.owner, S x.to, V64 x.d, V64 x.fr, .int .i64 x.n] #[.int .u8 (a.a.fam : Nat), V64 a.a.hi, V64 a.a.lo, S a.owner, V64 a.til, .int .u8 (a.pool.a.fam : Nat), V64 a.pool.a.hi, V64 a.pool.a.lo, .int .i64 a.pool.bits, .bool a.has, .bool a.held, .bool a.live, V64 a.clock, .slice r a.rows.length rc, .slice v a.events.length vc, .slice p a.pools.length pc] #[.slice none 0 0] 28 36 87
  obtain ⟨L0, hL0⟩ : ∃ L : List UInt8, L = [] := ⟨_, rfl⟩
  have hl0 : L0.length ≤ 0 := by rw [hL0]; exact Nat.le_refl _
  subst hr
  obtain ⟨L1, hL1⟩ : ∃ L, L = L0 ++ [P.byI 0] := ⟨_, rfl⟩
  have hl1 : L1.length ≤ 1 := by rw [hL1, List.length_append]; simp only [List.length_singleton]; omega
  have H1 := Lib.hid (fun wx (h : Wr wx (w.heap.size + 1 + 1) L0) => show Calls Tryd.prog 36 #[.pointer (some ⟨w.heap.size + 1 + 1, 0, none⟩), .int .i64 0] wx fun e w' => e = .returned (.tuple #[]) ∧ Wr w' (w.heap.size + 1 + 1) L1 ∧ Below (w.heap.size + 1 + 1) wx w' ∧ KeptW (w.heap.size + 1 + 1) wx w' from by rw [hL1]; exact wbyte_any _ L0 0 wx (by omega) h)
  obtain ⟨L2, hL2⟩ : ∃ L, L = L1 ++ P.headB x.op x.client x.number := ⟨_, rfl⟩
  have hl2 : L2.length ≤ 11 := by rw [hL2, List.length_append]; have := P.headB_len x.op x.client x.number; omega
  have H2 := Lib.hid (fun wx (h : Wr wx (w.heap.size + 1 + 1) L1) => show Calls Tryd.prog 31 #[.pointer (some ⟨w.heap.size + 1 + 1, 0, none⟩), caV x] wx fun e w' => e = .returned (.tuple #[]) ∧ Wr w' (w.heap.size + 1 + 1) L2 ∧ Below (w.heap.size + 1 + 1) wx w' ∧ KeptW (w.heap.size + 1 + 1) wx w' from by rw [hL2]; exact whead_any _ L1 x wx (by omega) h ht.1 ht.2.1 ht.2.2.1)
  obtain ⟨L3, hL3⟩ : ∃ L, L = L2 ++ [P.byI (a.rows.length : Int)] := ⟨_, rfl⟩
  have hl3 : L3.length ≤ 12 := by rw [hL3, List.length_append]; simp only [List.length_singleton]; omega
  have H3 := Lib.hid (fun wx (h : Wr wx (w.heap.size + 1 + 1) L2) => show Calls Tryd.prog 36 #[.pointer (some ⟨w.heap.size + 1 + 1, 0, none⟩), .int .i64 (a.rows.length : Int)] wx fun e w' => e = .returned (.tuple #[]) ∧ Wr w' (w.heap.size + 1 + 1) L3 ∧ Below (w.heap.size + 1 + 1) wx w' ∧ KeptW (w.heap.size + 1 + 1) wx w' from by rw [hL3]; exact wbyte_any _ L2 (a.rows.length : Int) wx (by omega) h)
  have Hres := Lib.hid (show L3 ++ (a.rows.take a.rows.length).flatMap P.rwB = P.tellB x.op x.client x.number a 0 by rw [List.take_length, hL3, hL2, hL1, hL0]; unfold P.tellB P.tailB; simp only [hop]; simp)
  clear hL3 hL2 hL1
  have t5 : ((x.op : Int) == 5) = false := beq_eq_false_iff_ne.2 (by omega)
  have t6 : ((x.op : Int) == 6) = false := beq_eq_false_iff_ne.2 (by omega)
  have t7 : ((x.op : Int) == 7) = false := beq_eq_false_iff_ne.2 (by omega)
  have t10 : ((x.op : Int) == 10) = false := beq_eq_false_iff_ne.2 (by omega)
  have t11 : ((x.op : Int) == 11) = true := beq_iff_eq.2 (by omega)
  clear hop
  go_enter Tryd.func21, Tryd.ntmps21
  go_upto_region 2 with fail
  generalize hW : ((w.alloc (.cells #[.int .u8 (x.op : Nat), .int .u8 (x.client : Nat), V64 x.number, .int .u8 (x.p.a.fam : Nat), V64 x.p.a.hi, V64 x.p.a.lo, .int .i64 x.p.bits, .int .u8 (x.a.fam : Nat), V64 x.a.hi, V64 x.a.lo, S x.owner, S x.to, V64 x.d, V64 x.fr, .int .i64 x.n] 28)).alloc (.cells #[.int .u8 (a.a.fam : Nat), V64 a.a.hi, V64 a.a.lo, S a.owner, V64 a.til, .int .u8 (a.pool.a.fam : Nat), V64 a.pool.a.hi, V64 a.pool.a.lo, .int .i64 a.pool.bits, .bool a.has, .bool a.held, .bool a.live, V64 a.clock, .slice (some ⟨b, o, none⟩) a.rows.length rc, .slice v a.events.length vc, .slice p a.pools.length pc] 36)).alloc (.cells #[.slice none 0 0] 87) = w1 at *
  clear hW
  have hW0 : Wr w1 (w.heap.size + 1 + 1) L0 := by rw [hL0]; exact ⟨none, 0, hwb, own_nil _ _⟩
  clear hwb
  go_wp2_with (first
    | (go_at_call 36; (with_reducible refine (H1.out _ hW0).mono ?_); rintro e w2 ⟨rfl, hW1, hb1, -⟩; have hc1 := hc.below hb1 (by omega); have ha1 := ha.below hb1 (by omega); have hA1 := hA.trans (hb1.mono (by omega)); obtain ⟨⟨c0, c1, c2, c3, c4, c5, c6, c7, c8, c9, c10, c11, c12, c13, c14⟩, -⟩ := hc1.cells15; skip)
    | (go_at_call 31; (with_reducible refine (H2.out _ hW1).mono ?_); rintro e w3 ⟨rfl, hW2, hb2, -⟩; have hc2 := hc1.below hb2 (by omega); have ha2 := ha1.below hb2 (by omega); have hA2 := hA1.trans (hb2.mono (by omega)); obtain ⟨⟨c0, -, -, -, -, -, -, -, -, -, -, -, -, -, -⟩, -⟩ := hc2.cells15; obtain ⟨⟨-, -, -, -, -, -, -, -, -, -, -, -, -, a13, -, -⟩, -⟩ := ha2.cells16; skip)
    | (go_at_call 36; (with_reducible refine (H3.out _ hW2).mono ?_); rintro e w4 ⟨rfl, hW3, hb3, -⟩; have hc3 := hc2.below hb3 (by omega); have ha3 := ha2.below hb3 (by omega); have hA3 := hA2.trans (hb3.mono (by omega)); obtain ⟨⟨-, -, -, -, -, -, -, -, -, -, -, -, -, a13, -, -⟩, -⟩ := ha3.cells16; skip))
  clear hc ha hA hc1 ha1 hA1 hc2 ha2 hA2 hW0 hW1 hW2 hb1 hb2 hb3 H1 H2 H3 hc3 ha3
  have hG : w.heap.size + 1 + 1 < w4.heap.size := hW3.lt
  go_loopw [9, 58] (fun _ i wr => ∃ j : Nat, j ≤ a.rows.length ∧ i = .int .i64 (j : Int) ∧ Wr wr (w.heap.size + 1 + 1) (L3 ++ (a.rows.take j).flatMap P.rwB) ∧ Below w.heap.size w wr) (fun _ i _ => a.rows.length - (intOf i).toNat)
  case atStart => exact ⟨0, by omega, rfl, by simpa using hW3, hA3⟩
  case round =>
    clear hW3 hA3 hG
    obtain ⟨j, hj, rfl, hW, hb⟩ := hrel
    have hG : w.heap.size + 1 + 1 < wr.heap.size := hW.lt
    by_cases hjn : j < a.rows.length
    · have hji : decide ((j : Int) < (a.rows.length : Int)) = true := decide_eq_true (by omega)
      have hwj : IntKind.i64.wrap ((j : Int) + 1) = (j : Int) + 1 := wrap_midT (by omega) (by omega)
      obtain ⟨b', o', hbo, hlt, hcell⟩ := hat.up hb j hjn
      injection hbo with hbo
      injection hbo with hbo1 hbo2
      subst hbo1 hbo2
      have hll := flat_len_le P.rwB 2035 a.rows (fun y hy => P.rwB_le (hos y hy)) j
      have htk := take_flat P.rwB a.rows j hjn
      have hmem : a.rows[j] ∈ a.rows := List.getElem_mem hjn
      have hty := hta.2.2.2.2.1 _ hmem
      have hown := hos _ hmem
      generalize hy : a.rows[j] = y at *
      clear hy
      obtain ⟨M, hM⟩ : ∃ M, M = L3 ++ (a.rows.take j).flatMap P.rwB := ⟨_, rfl⟩
      have hMl : M.length ≤ 12 + 2035 * j := by rw [hM, List.length_append]; omega
      have hMl2 : M.length ≤ 12 + 2035 * 40 := Nat.le_trans hMl (by have : 2035 * j ≤ 2035 * 40 := Nat.mul_le_mul_left _ (by omega); omega)
      have HM := Lib.hid (show L3 ++ (a.rows.take (j + 1)).flatMap P.rwB = M ++ P.rwB y by rw [htk, hM, List.append_assoc])
      rw [← hM] at hW
      clear hM htk hll hMl hmem
      have e0 := hcell 0 (by omega)
      have e1 := hcell 1 (by omega)
      have e2 := hcell 2 (by omega)
      have e3 := hcell 3 (by omega)
      have e4 := hcell 4 (by omega)
      clear hcell
      simp only [rwC, List.getElem?_cons_zero, List.getElem?_cons_succ, Nat.add_zero] at e0 e1 e2 e3 e4
      obtain ⟨P0, hP0⟩ : ∃ L, L = M ++ P.adX y.a := ⟨_, rfl⟩
      have hPl0 : P0.length ≤ 12 + 2035 * 40 + 17 := by rw [hP0, List.length_append]; have := P.adX_le y.a; omega
      have HC0 := Lib.hid (fun wx (h : Wr wx (w.heap.size + 1 + 1) M) => show Calls Tryd.prog 33 #[.pointer (some ⟨w.heap.size + 1 + 1, 0, none⟩), adV y.a] wx fun e w' => e = .returned (.tuple #[]) ∧ Wr w' (w.heap.size + 1 + 1) P0 ∧ Below (w.heap.size + 1 + 1) wx w' ∧ KeptW (w.heap.size + 1 + 1) wx w' from by rw [hP0]; exact waddr_any _ M y.a wx (by omega) h hty.1)
      obtain ⟨P1, hP1⟩ : ∃ L, L = P0 ++ P.leB y.owner y.til := ⟨_, rfl⟩
      have hPl1 : P1.length ≤ 12 + 2035 * 40 + 2035 := by rw [hP1, List.length_append]; have := P.leB_le2 hown y.til; omega
      have HC1 := Lib.hid (fun wx (h : Wr wx (w.heap.size + 1 + 1) P0) => show Calls Tryd.prog 63 #[.pointer (some ⟨w.heap.size + 1 + 1, 0, none⟩), .agg #[S y.owner, V64 y.til]] wx fun e w' => e = .returned (.tuple #[]) ∧ Wr w' (w.heap.size + 1 + 1) P1 ∧ Below (w.heap.size + 1 + 1) wx w' ∧ KeptW (w.heap.size + 1 + 1) wx w' from by rw [hP1]; exact wlease_any _ P0 (y.owner, y.til) wx (by omega) h (by show y.owner.length ≤ _; omega) hty.2)
      have HE := Lib.hid (show P1 = M ++ P.rwB y by first | (rw [hP1, hP0]; done) | (rw [hP1, hP0]; simp [P.rwB, P.leB]))
      clear hP0 hP1
      have hr0 := Bx.fresh wr 80 #[.int .u8 0, .int .u64 0, .int .u64 0, .string ⟨#[]⟩, .int .u64 0]
      have hB0 := (Below.refl wr.heap.size wr).alloc (Nat.le_refl _) (.cells #[.int .u8 0, .int .u64 0, .int .u64 0, .string ⟨#[]⟩, .int .u64 0] 80)
      go_wp2_with (first
        | (refine wpList_stB (by rfl) _ _ _ (by rfl) hr0 _ _ (by rfl) (by rfl) 5 5 (by rfl) (by rfl) (by decide) infoRw1 (by rfl) (by rfl) ?_; intro v0 hz' hs0; have hr1 : Bx v0 wr.heap.size 80 #[.int .u8 (y.a.fam : Nat), V64 y.a.hi, V64 y.a.lo, S y.owner, V64 y.til] := hz'; clear hz'; have hbs := hB0.trans (hs0.below (Nat.le_refl _) hB0.size); have hV0 := hW.up hbs; have d0 := hr1.cell 0; have d1 := hr1.cell 1; have d2 := hr1.cell 2; have d3 := hr1.cell 3; have d4 := hr1.cell 4; simp only [List.getElem?_toArray, List.getElem?_cons_succ, List.getElem?_cons_zero] at d0 d1 d2 d3 d4)
            | (go_at_call 33; (with_reducible refine (HC0.out _ hV0).mono ?_); rintro e v1 ⟨rfl, hV1, hbv0, hkv0⟩; have hr2 := hr1.keptW hkv0 (by decide) (by omega); have d0 := hr2.cell 0; have d1 := hr2.cell 1; have d2 := hr2.cell 2; have d3 := hr2.cell 3; have d4 := hr2.cell 4; simp only [List.getElem?_toArray, List.getElem?_cons_succ, List.getElem?_cons_zero] at d0 d1 d2 d3 d4)
        | (go_at_call 63; (with_reducible refine (HC1.out _ hV1).mono ?_); rintro e v2 ⟨rfl, hV2, hbv1, hkv1⟩; have hr3 := hr2.keptW hkv1 (by decide) (by omega); have d0 := hr3.cell 0; have d1 := hr3.cell 1; have d2 := hr3.cell 2; have d3 := hr3.cell 3; have d4 := hr3.cell 4; simp only [List.getElem?_toArray, List.getElem?_cons_succ, List.getElem?_cons_zero] at d0 d1 d2 d3 d4))
      go_roundw
      case rel => exact ⟨j + 1, by omega, by go_num, by rw [HM.out, ← HE.out]; exact hV2, (((hb.trans (hbs.mono (by have := hb.size; omega))).trans (hbv0.mono (by omega))).trans (hbv1.mono (by omega)))⟩
      case measure => simp [intOf]; omega
    · have hji : decide ((j : Int) < (a.rows.length : Int)) = false := decide_eq_false (by omega)
      obtain rfl : j = a.rows.length := by omega
      rw [Hres.out] at hW
      obtain ⟨sa, sc, hwx, hwo⟩ := hW
      have q0 := hwx.cell 0
      go_wp2_with (refine wpList_conv_own (by rfl) hwo ?_)
      go_ret
      exact ⟨rfl, hb⟩
set_option maxRecDepth 100000 in
set_option maxHeartbeats 8000000 in
theorem tell_events (x : P.Ca) (a : P.An) (r : Option Addr) (rc : Nat) (v : Option Addr) (vc : Nat) (p : Option Addr) (pc : Nat) (ht : P.tyC x) (hta : P.tyAn a) (hn : a.events.length ≤ 40) (hos : ∀ y ∈ a.events, y.owner.length ≤ 2000) (hop : x.op = 12) (w : World) (b o : Nat) (hr : v = some ⟨b, o, none⟩) (hat : RowsAt 4 evC w v a.events) :
    Calls Tryd.prog 21 #[caV x, anV a r rc v vc p pc, .int .i64 0] w fun e' w' => e' = .returned (S (P.tellB x.op x.client x.number a 0)) ∧ Below w.heap.size w w' := by
  obtain ⟨hc, ha, hwb, hA⟩ := three_bx w #[.int .u8 (x.op : Nat), .int .u8 (x.client : Nat), V64 x.number, .int .u8 (x.p.a.fam : Nat), V64 x.p.a.hi, V64 x.p.a.lo, .int .i64 x.p.bits, .int .u8 (x.a.fam : Nat), V64 x.a.hi, V64 x.a.lo, S x.owner, S x.to, V64 x.d, V64 x.fr, .int .i64 x.n] #[.int .u8 (a.a.fam : Nat), V64 a.a.hi, V64 a.a.lo, S a.owner, V64 a.til, .int .u8 (a.pool.a.fam : Nat), V64 a.pool.a.hi, V64 a.pool.a.lo, .int .i64 a.pool.bits, .bool a.has, .bool a.held, .bool a.live, V64 a.clock, .slice r a.rows.length rc, .slice v a.events.length vc, .slice p a.pools.length pc] #[.slice none 0 0] 28 36 87
  obtain ⟨L0, hL0⟩ : ∃ L : List UInt8, L = [] := ⟨_, rfl⟩
  have hl0 : L0.length ≤ 0 := by rw [hL0]; exact Nat.le_refl _
  subst hr
  obtain ⟨L1, hL1⟩ : ∃ L, L = L0 ++ [P.byI 0] := ⟨_, rfl⟩
  have hl1 : L1.length ≤ 1 := by rw [hL1, List.length_append]; simp only [List.length_singleton]; omega
  have H1 := Lib.hid (fun wx (h : Wr wx (w.heap.size + 1 + 1) L0) => show Calls Tryd.prog 36 #[.pointer (some ⟨w.heap.size + 1 + 1, 0, none⟩), .int .i64 0] wx fun e w' => e = .returned (.tuple #[]) ∧ Wr w' (w.heap.size + 1 + 1) L1 ∧ Below (w.heap.size + 1 + 1) wx w' ∧ KeptW (w.heap.size + 1 + 1) wx w' from by rw [hL1]; exact wbyte_any _ L0 0 wx (by omega) h)
  obtain ⟨L2, hL2⟩ : ∃ L, L = L1 ++ P.headB x.op x.client x.number := ⟨_, rfl⟩
  have hl2 : L2.length ≤ 11 := by rw [hL2, List.length_append]; have := P.headB_len x.op x.client x.number; omega
  have H2 := Lib.hid (fun wx (h : Wr wx (w.heap.size + 1 + 1) L1) => show Calls Tryd.prog 31 #[.pointer (some ⟨w.heap.size + 1 + 1, 0, none⟩), caV x] wx fun e w' => e = .returned (.tuple #[]) ∧ Wr w' (w.heap.size + 1 + 1) L2 ∧ Below (w.heap.size + 1 + 1) wx w' ∧ KeptW (w.heap.size + 1 + 1) wx w' from by rw [hL2]; exact whead_any _ L1 x wx (by omega) h ht.1 ht.2.1 ht.2.2.1)
  obtain ⟨L3, hL3⟩ : ∃ L, L = L2 ++ [P.byI (a.events.length : Int)] := ⟨_, rfl⟩
  have hl3 : L3.length ≤ 12 := by rw [hL3, List.length_append]; simp only [List.length_singleton]; omega
  have H3 := Lib.hid (fun wx (h : Wr wx (w.heap.size + 1 + 1) L2) => show Calls Tryd.prog 36 #[.pointer (some ⟨w.heap.size + 1 + 1, 0, none⟩), .int .i64 (a.events.length : Int)] wx fun e w' => e = .returned (.tuple #[]) ∧ Wr w' (w.heap.size + 1 + 1) L3 ∧ Below (w.heap.size + 1 + 1) wx w' ∧ KeptW (w.heap.size + 1 + 1) wx w' from by rw [hL3]; exact wbyte_any _ L2 (a.events.length : Int) wx (by omega) h)
  have Hres := Lib.hid (show L3 ++ (a.events.take a.events.length).flatMap P.evB = P.tellB x.op x.client x.number a 0 by rw [List.take_length, hL3, hL2, hL1, hL0]; unfold P.tellB P.tailB; simp only [hop]; simp)
  clear hL3 hL2 hL1
  have t5 : ((x.op : Int) == 5) = false := beq_eq_false_iff_ne.2 (by omega)
  have t6 : ((x.op : Int) == 6) = false := beq_eq_false_iff_ne.2 (by omega)
  have t7 : ((x.op : Int) == 7) = false := beq_eq_false_iff_ne.2 (by omega)
  have t10 : ((x.op : Int) == 10) = false := beq_eq_false_iff_ne.2 (by omega)
  have t11 : ((x.op : Int) == 11) = false := beq_eq_false_iff_ne.2 (by omega)
  have t12 : ((x.op : Int) == 12) = true := beq_iff_eq.2 (by omega)
  clear hop
  go_enter Tryd.func21, Tryd.ntmps21
  go_upto_region 2 with fail
  generalize hW : ((w.alloc (.cells #[.int .u8 (x.op : Nat), .int .u8 (x.client : Nat), V64 x.number, .int .u8 (x.p.a.fam : Nat), V64 x.p.a.hi, V64 x.p.a.lo, .int .i64 x.p.bits, .int .u8 (x.a.fam : Nat), V64 x.a.hi, V64 x.a.lo, S x.owner, S x.to, V64 x.d, V64 x.fr, .int .i64 x.n] 28)).alloc (.cells #[.int .u8 (a.a.fam : Nat), V64 a.a.hi, V64 a.a.lo, S a.owner, V64 a.til, .int .u8 (a.pool.a.fam : Nat), V64 a.pool.a.hi, V64 a.pool.a.lo, .int .i64 a.pool.bits, .bool a.has, .bool a.held, .bool a.live, V64 a.clock, .slice r a.rows.length rc, .slice (some ⟨b, o, none⟩) a.events.length vc, .slice p a.pools.length pc] 36)).alloc (.cells #[.slice none 0 0] 87) = w1 at *
  clear hW
  have hW0 : Wr w1 (w.heap.size + 1 + 1) L0 := by rw [hL0]; exact ⟨none, 0, hwb, own_nil _ _⟩
  clear hwb
  go_wp2_with (first
    | (go_at_call 36; (with_reducible refine (H1.out _ hW0).mono ?_); rintro e w2 ⟨rfl, hW1, hb1, -⟩; have hc1 := hc.below hb1 (by omega); have ha1 := ha.below hb1 (by omega); have hA1 := hA.trans (hb1.mono (by omega)); obtain ⟨⟨c0, c1, c2, c3, c4, c5, c6, c7, c8, c9, c10, c11, c12, c13, c14⟩, -⟩ := hc1.cells15; skip)
    | (go_at_call 31; (with_reducible refine (H2.out _ hW1).mono ?_); rintro e w3 ⟨rfl, hW2, hb2, -⟩; have hc2 := hc1.below hb2 (by omega); have ha2 := ha1.below hb2 (by omega); have hA2 := hA1.trans (hb2.mono (by omega)); obtain ⟨⟨c0, -, -, -, -, -, -, -, -, -, -, -, -, -, -⟩, -⟩ := hc2.cells15; obtain ⟨⟨-, -, -, -, -, -, -, -, -, -, -, -, -, -, a14, -⟩, -⟩ := ha2.cells16; skip)
    | (go_at_call 36; (with_reducible refine (H3.out _ hW2).mono ?_); rintro e w4 ⟨rfl, hW3, hb3, -⟩; have hc3 := hc2.below hb3 (by omega); have ha3 := ha2.below hb3 (by omega); have hA3 := hA2.trans (hb3.mono (by omega)); obtain ⟨⟨-, -, -, -, -, -, -, -, -, -, -, -, -, -, a14, -⟩, -⟩ := ha3.cells16; skip))
  clear hc ha hA hc1 ha1 hA1 hc2 ha2 hA2 hW0 hW1 hW2 hb1 hb2 hb3 H1 H2 H3 hc3 ha3
  have hG : w.heap.size + 1 + 1 < w4.heap.size := hW3.lt
  go_loopw [11, 81] (fun _ i wr => ∃ j : Nat, j ≤ a.events.length ∧ i = .int .i64 (j : Int) ∧ Wr wr (w.heap.size + 1 + 1) (L3 ++ (a.events.take j).flatMap P.evB) ∧ Below w.heap.size w wr) (fun _ i _ => a.events.length - (intOf i).toNat)
  case atStart => exact ⟨0, by omega, rfl, by simpa using hW3, hA3⟩
  case round =>
    clear hW3 hA3 hG
    obtain ⟨j, hj, rfl, hW, hb⟩ := hrel
    have hG : w.heap.size + 1 + 1 < wr.heap.size := hW.lt
    by_cases hjn : j < a.events.length
    · have hji : decide ((j : Int) < (a.events.length : Int)) = true := decide_eq_true (by omega)
      have hwj : IntKind.i64.wrap ((j : Int) + 1) = (j : Int) + 1 := wrap_midT (by omega) (by omega)
      obtain ⟨b', o', hbo, hlt, hcell⟩ := hat.up hb j hjn
      injection hbo with hbo
      injection hbo with hbo1 hbo2
      subst hbo1 hbo2
      have hll := flat_len_le P.evB 2035 a.events (fun y hy => P.evB_le (hos y hy)) j
      have htk := take_flat P.evB a.events j hjn
      have hmem : a.events[j] ∈ a.events := List.getElem_mem hjn
      have hty := hta.2.2.2.2.2.1 _ hmem
      have hown := hos _ hmem
      generalize hy : a.events[j] = y at *
      clear hy
      obtain ⟨M, hM⟩ : ∃ M, M = L3 ++ (a.events.take j).flatMap P.evB := ⟨_, rfl⟩
      have hMl : M.length ≤ 12 + 2035 * j := by rw [hM, List.length_append]; omega
      have hMl2 : M.length ≤ 12 + 2035 * 40 := Nat.le_trans hMl (by have : 2035 * j ≤ 2035 * 40 := Nat.mul_le_mul_left _ (by omega); omega)
      have HM := Lib.hid (show L3 ++ (a.events.take (j + 1)).flatMap P.evB = M ++ P.evB y by rw [htk, hM, List.append_assoc])
      rw [← hM] at hW
      clear hM htk hll hMl hmem
      have e0 := hcell 0 (by omega)
      have e1 := hcell 1 (by omega)
      have e2 := hcell 2 (by omega)
      have e3 := hcell 3 (by omega)
      clear hcell
      simp only [evC, List.getElem?_cons_zero, List.getElem?_cons_succ, Nat.add_zero] at e0 e1 e2 e3
      obtain ⟨P0, hP0⟩ : ∃ L, L = M ++ [P.byI y.how] := ⟨_, rfl⟩
      have hPl0 : P0.length ≤ 12 + 2035 * 40 + 1 := by rw [hP0, List.length_append]; simp only [List.length_singleton]; omega
      have HC0 := Lib.hid (fun wx (h : Wr wx (w.heap.size + 1 + 1) M) => show Calls Tryd.prog 36 #[.pointer (some ⟨w.heap.size + 1 + 1, 0, none⟩), .int .i64 y.how] wx fun e w' => e = .returned (.tuple #[]) ∧ Wr w' (w.heap.size + 1 + 1) P0 ∧ Below (w.heap.size + 1 + 1) wx w' ∧ KeptW (w.heap.size + 1 + 1) wx w' from by rw [hP0]; exact wbyte_any _ M y.how wx (by omega) h)
      obtain ⟨P1, hP1⟩ : ∃ L, L = P0 ++ P.txB y.owner := ⟨_, rfl⟩
      have hPl1 : P1.length ≤ 12 + 2035 * 40 + 2010 := by rw [hP1, List.length_append]; have := P.txB_le2 hown; omega
      have HC1 := Lib.hid (fun wx (h : Wr wx (w.heap.size + 1 + 1) P0) => show Calls Tryd.prog 34 #[.pointer (some ⟨w.heap.size + 1 + 1, 0, none⟩), S y.owner] wx fun e w' => e = .returned (.tuple #[]) ∧ Wr w' (w.heap.size + 1 + 1) P1 ∧ Below (w.heap.size + 1 + 1) wx w' ∧ KeptW (w.heap.size + 1 + 1) wx w' from by rw [hP1]; exact wtext_any _ P0 y.owner wx (by omega) h (by omega))
      obtain ⟨P2, hP2⟩ : ∃ L, L = P1 ++ P.row y.at' := ⟨_, rfl⟩
      have hPl2 : P2.length ≤ 12 + 2035 * 40 + 2019 := by rw [hP2, List.length_append]; have := P.row_len9 y.at'; omega
      have HC2 := Lib.hid (fun wx (h : Wr wx (w.heap.size + 1 + 1) P1) => show Calls Tryd.prog 35 #[.pointer (some ⟨w.heap.size + 1 + 1, 0, none⟩), V64 y.at'] wx fun e w' => e = .returned (.tuple #[]) ∧ Wr w' (w.heap.size + 1 + 1) P2 ∧ Below (w.heap.size + 1 + 1) wx w' ∧ KeptW (w.heap.size + 1 + 1) wx w' from by rw [hP2]; exact wnumber_any _ P1 y.at' wx (by omega) h hty.2.1)
      obtain ⟨P3, hP3⟩ : ∃ L, L = P2 ++ P.row y.til := ⟨_, rfl⟩
      have hPl3 : P3.length ≤ 12 + 2035 * 40 + 2028 := by rw [hP3, List.length_append]; have := P.row_len9 y.til; omega
      have HC3 := Lib.hid (fun wx (h : Wr wx (w.heap.size + 1 + 1) P2) => show Calls Tryd.prog 35 #[.pointer (some ⟨w.heap.size + 1 + 1, 0, none⟩), V64 y.til] wx fun e w' => e = .returned (.tuple #[]) ∧ Wr w' (w.heap.size + 1 + 1) P3 ∧ Below (w.heap.size + 1 + 1) wx w' ∧ KeptW (w.heap.size + 1 + 1) wx w' from by rw [hP3]; exact wnumber_any _ P2 y.til wx (by omega) h hty.2.2)
      have HE := Lib.hid (show P3 = M ++ P.evB y by first | (rw [hP3, hP2, hP1, hP0]; done) | (rw [hP3, hP2, hP1, hP0]; simp [P.evB, P.leB]))
      clear hP0 hP1 hP2 hP3
      have hr0 := Bx.fresh wr 82 #[.int .i64 0, .string ⟨#[]⟩, .int .u64 0, .int .u64 0]
      have hB0 := (Below.refl wr.heap.size wr).alloc (Nat.le_refl _) (.cells #[.int .i64 0, .string ⟨#[]⟩, .int .u64 0, .int .u64 0] 82)
      go_wp2_with (first
        | (refine wpList_stB (by rfl) _ _ _ (by rfl) hr0 _ _ (by rfl) (by rfl) 4 4 (by rfl) (by rfl) (by decide) infoEv1 (by rfl) (by rfl) ?_; intro v0 hz' hs0; have hr1 : Bx v0 wr.heap.size 82 #[.int .i64 y.how, S y.owner, V64 y.at', V64 y.til] := hz'; clear hz'; have hbs := hB0.trans (hs0.below (Nat.le_refl _) hB0.size); have hV0 := hW.up hbs; have d0 := hr1.cell 0; have d1 := hr1.cell 1; have d2 := hr1.cell 2; have d3 := hr1.cell 3; simp only [List.getElem?_toArray, List.getElem?_cons_succ, List.getElem?_cons_zero] at d0 d1 d2 d3)
            | (go_at_call 36; (with_reducible refine (HC0.out _ hV0).mono ?_); rintro e v1 ⟨rfl, hV1, hbv0, hkv0⟩; have hr2 := hr1.keptW hkv0 (by decide) (by omega); have d0 := hr2.cell 0; have d1 := hr2.cell 1; have d2 := hr2.cell 2; have d3 := hr2.cell 3; simp only [List.getElem?_toArray, List.getElem?_cons_succ, List.getElem?_cons_zero] at d0 d1 d2 d3)
        | (go_at_call 34; (with_reducible refine (HC1.out _ hV1).mono ?_); rintro e v2 ⟨rfl, hV2, hbv1, hkv1⟩; have hr3 := hr2.keptW hkv1 (by decide) (by omega); have d0 := hr3.cell 0; have d1 := hr3.cell 1; have d2 := hr3.cell 2; have d3 := hr3.cell 3; simp only [List.getElem?_toArray, List.getElem?_cons_succ, List.getElem?_cons_zero] at d0 d1 d2 d3)
        | (go_at_call 35; (with_reducible refine (HC2.out _ hV2).mono ?_); rintro e v3 ⟨rfl, hV3, hbv2, hkv2⟩; have hr4 := hr3.keptW hkv2 (by decide) (by omega); have d0 := hr4.cell 0; have d1 := hr4.cell 1; have d2 := hr4.cell 2; have d3 := hr4.cell 3; simp only [List.getElem?_toArray, List.getElem?_cons_succ, List.getElem?_cons_zero] at d0 d1 d2 d3)
        | (go_at_call 35; (with_reducible refine (HC3.out _ hV3).mono ?_); rintro e v4 ⟨rfl, hV4, hbv3, hkv3⟩; have hr5 := hr4.keptW hkv3 (by decide) (by omega); have d0 := hr5.cell 0; have d1 := hr5.cell 1; have d2 := hr5.cell 2; have d3 := hr5.cell 3; simp only [List.getElem?_toArray, List.getElem?_cons_succ, List.getElem?_cons_zero] at d0 d1 d2 d3))
      go_roundw
      case rel => exact ⟨j + 1, by omega, by go_num, by rw [HM.out, ← HE.out]; exact hV4, (((((hb.trans (hbs.mono (by have := hb.size; omega))).trans (hbv0.mono (by omega))).trans (hbv1.mono (by omega))).trans (hbv2.mono (by omega))).trans (hbv3.mono (by omega)))⟩
      case measure => simp [intOf]; omega
    · have hji : decide ((j : Int) < (a.events.length : Int)) = false := decide_eq_false (by omega)
      obtain rfl : j = a.events.length := by omega
      rw [Hres.out] at hW
      obtain ⟨sa, sc, hwx, hwo⟩ := hW
      have q0 := hwx.cell 0
      go_wp2_with (refine wpList_conv_own (by rfl) hwo ?_)
      go_ret
      exact ⟨rfl, hb⟩
set_option maxRecDepth 100000 in
set_option maxHeartbeats 8000000 in
theorem tell_pools (x : P.Ca) (a : P.An) (r : Option Addr) (rc : Nat) (v : Option Addr) (vc : Nat) (p : Option Addr) (pc : Nat) (ht : P.tyC x) (hta : P.tyAn a) (hn : a.pools.length ≤ 40) (hop : x.op = 13 ∨ x.op = 14) (w : World) (b o : Nat) (hr : p = some ⟨b, o, none⟩) (hat : RowsAt 4 pxC w p a.pools) :
    Calls Tryd.prog 21 #[caV x, anV a r rc v vc p pc, .int .i64 0] w fun e' w' => e' = .returned (S (P.tellB x.op x.client x.number a 0)) ∧ Below w.heap.size w w' := by
  obtain ⟨hc, ha, hwb, hA⟩ := three_bx w #[.int .u8 (x.op : Nat), .int .u8 (x.client : Nat), V64 x.number, .int .u8 (x.p.a.fam : Nat), V64 x.p.a.hi, V64 x.p.a.lo, .int .i64 x.p.bits, .int .u8 (x.a.fam : Nat), V64 x.a.hi, V64 x.a.lo, S x.owner, S x.to, V64 x.d, V64 x.fr, .int .i64 x.n] #[.int .u8 (a.a.fam : Nat), V64 a.a.hi, V64 a.a.lo, S a.owner, V64 a.til, .int .u8 (a.pool.a.fam : Nat), V64 a.pool.a.hi, V64 a.pool.a.lo, .int .i64 a.pool.bits, .bool a.has, .bool a.held, .bool a.live, V64 a.clock, .slice r a.rows.length rc, .slice v a.events.length vc, .slice p a.pools.length pc] #[.slice none 0 0] 28 36 87
  obtain ⟨L0, hL0⟩ : ∃ L : List UInt8, L = [] := ⟨_, rfl⟩
  have hl0 : L0.length ≤ 0 := by rw [hL0]; exact Nat.le_refl _
  subst hr
  obtain ⟨L1, hL1⟩ : ∃ L, L = L0 ++ [P.byI 0] := ⟨_, rfl⟩
  have hl1 : L1.length ≤ 1 := by rw [hL1, List.length_append]; simp only [List.length_singleton]; omega
  have H1 := Lib.hid (fun wx (h : Wr wx (w.heap.size + 1 + 1) L0) => show Calls Tryd.prog 36 #[.pointer (some ⟨w.heap.size + 1 + 1, 0, none⟩), .int .i64 0] wx fun e w' => e = .returned (.tuple #[]) ∧ Wr w' (w.heap.size + 1 + 1) L1 ∧ Below (w.heap.size + 1 + 1) wx w' ∧ KeptW (w.heap.size + 1 + 1) wx w' from by rw [hL1]; exact wbyte_any _ L0 0 wx (by omega) h)
  obtain ⟨L2, hL2⟩ : ∃ L, L = L1 ++ P.headB x.op x.client x.number := ⟨_, rfl⟩
  have hl2 : L2.length ≤ 11 := by rw [hL2, List.length_append]; have := P.headB_len x.op x.client x.number; omega
  have H2 := Lib.hid (fun wx (h : Wr wx (w.heap.size + 1 + 1) L1) => show Calls Tryd.prog 31 #[.pointer (some ⟨w.heap.size + 1 + 1, 0, none⟩), caV x] wx fun e w' => e = .returned (.tuple #[]) ∧ Wr w' (w.heap.size + 1 + 1) L2 ∧ Below (w.heap.size + 1 + 1) wx w' ∧ KeptW (w.heap.size + 1 + 1) wx w' from by rw [hL2]; exact whead_any _ L1 x wx (by omega) h ht.1 ht.2.1 ht.2.2.1)
  obtain ⟨L3, hL3⟩ : ∃ L, L = L2 ++ [P.byI (a.pools.length : Int)] := ⟨_, rfl⟩
  have hl3 : L3.length ≤ 12 := by rw [hL3, List.length_append]; simp only [List.length_singleton]; omega
  have H3 := Lib.hid (fun wx (h : Wr wx (w.heap.size + 1 + 1) L2) => show Calls Tryd.prog 36 #[.pointer (some ⟨w.heap.size + 1 + 1, 0, none⟩), .int .i64 (a.pools.length : Int)] wx fun e w' => e = .returned (.tuple #[]) ∧ Wr w' (w.heap.size + 1 + 1) L3 ∧ Below (w.heap.size + 1 + 1) wx w' ∧ KeptW (w.heap.size + 1 + 1) wx w' from by rw [hL3]; exact wbyte_any _ L2 (a.pools.length : Int) wx (by omega) h)
  have Hres := Lib.hid (show L3 ++ (a.pools.take a.pools.length).flatMap P.pxX = P.tellB x.op x.client x.number a 0 by rw [List.take_length, hL3, hL2, hL1, hL0]; unfold P.tellB P.tailB; rcases hop with hop | hop <;> (simp only [hop]; simp))
  clear hL3 hL2 hL1
  rcases hop with hop | hop
  · skip
    have t5 : ((x.op : Int) == 5) = false := beq_eq_false_iff_ne.2 (by omega)
    have t6 : ((x.op : Int) == 6) = false := beq_eq_false_iff_ne.2 (by omega)
    have t7 : ((x.op : Int) == 7) = false := beq_eq_false_iff_ne.2 (by omega)
    have t10 : ((x.op : Int) == 10) = false := beq_eq_false_iff_ne.2 (by omega)
    have t11 : ((x.op : Int) == 11) = false := beq_eq_false_iff_ne.2 (by omega)
    have t12 : ((x.op : Int) == 12) = false := beq_eq_false_iff_ne.2 (by omega)
    have t13 : ((x.op : Int) == 13) = true := beq_iff_eq.2 (by omega)
    clear hop
    go_enter Tryd.func21, Tryd.ntmps21
    go_upto_region 2 with fail
    generalize hW : ((w.alloc (.cells #[.int .u8 (x.op : Nat), .int .u8 (x.client : Nat), V64 x.number, .int .u8 (x.p.a.fam : Nat), V64 x.p.a.hi, V64 x.p.a.lo, .int .i64 x.p.bits, .int .u8 (x.a.fam : Nat), V64 x.a.hi, V64 x.a.lo, S x.owner, S x.to, V64 x.d, V64 x.fr, .int .i64 x.n] 28)).alloc (.cells #[.int .u8 (a.a.fam : Nat), V64 a.a.hi, V64 a.a.lo, S a.owner, V64 a.til, .int .u8 (a.pool.a.fam : Nat), V64 a.pool.a.hi, V64 a.pool.a.lo, .int .i64 a.pool.bits, .bool a.has, .bool a.held, .bool a.live, V64 a.clock, .slice r a.rows.length rc, .slice v a.events.length vc, .slice (some ⟨b, o, none⟩) a.pools.length pc] 36)).alloc (.cells #[.slice none 0 0] 87) = w1 at *
    clear hW
    have hW0 : Wr w1 (w.heap.size + 1 + 1) L0 := by rw [hL0]; exact ⟨none, 0, hwb, own_nil _ _⟩
    clear hwb
    go_wp2_with (first
      | (go_at_call 36; (with_reducible refine (H1.out _ hW0).mono ?_); rintro e w2 ⟨rfl, hW1, hb1, -⟩; have hc1 := hc.below hb1 (by omega); have ha1 := ha.below hb1 (by omega); have hA1 := hA.trans (hb1.mono (by omega)); obtain ⟨⟨c0, c1, c2, c3, c4, c5, c6, c7, c8, c9, c10, c11, c12, c13, c14⟩, -⟩ := hc1.cells15; skip)
      | (go_at_call 31; (with_reducible refine (H2.out _ hW1).mono ?_); rintro e w3 ⟨rfl, hW2, hb2, -⟩; have hc2 := hc1.below hb2 (by omega); have ha2 := ha1.below hb2 (by omega); have hA2 := hA1.trans (hb2.mono (by omega)); obtain ⟨⟨c0, -, -, -, -, -, -, -, -, -, -, -, -, -, -⟩, -⟩ := hc2.cells15; obtain ⟨⟨-, -, -, -, -, -, -, -, -, -, -, -, -, -, -, a15⟩, -⟩ := ha2.cells16; skip)
      | (go_at_call 36; (with_reducible refine (H3.out _ hW2).mono ?_); rintro e w4 ⟨rfl, hW3, hb3, -⟩; have hc3 := hc2.below hb3 (by omega); have ha3 := ha2.below hb3 (by omega); have hA3 := hA2.trans (hb3.mono (by omega)); obtain ⟨⟨-, -, -, -, -, -, -, -, -, -, -, -, -, -, -, a15⟩, -⟩ := ha3.cells16; skip))
    clear hc ha hA hc1 ha1 hA1 hc2 ha2 hA2 hW0 hW1 hW2 hb1 hb2 hb3 H1 H2 H3 hc3 ha3
    have hG : w.heap.size + 1 + 1 < w4.heap.size := hW3.lt
    go_loopw [13, 113] (fun _ i wr => ∃ j : Nat, j ≤ a.pools.length ∧ i = .int .i64 (j : Int) ∧ Wr wr (w.heap.size + 1 + 1) (L3 ++ (a.pools.take j).flatMap P.pxX) ∧ Below w.heap.size w wr) (fun _ i _ => a.pools.length - (intOf i).toNat)
    case atStart => exact ⟨0, by omega, rfl, by simpa using hW3, hA3⟩
    case round =>
      clear hW3 hA3 hG
      obtain ⟨j, hj, rfl, hW, hb⟩ := hrel
      have hG : w.heap.size + 1 + 1 < wr.heap.size := hW.lt
      by_cases hjn : j < a.pools.length
      · have hji : decide ((j : Int) < (a.pools.length : Int)) = true := decide_eq_true (by omega)
        have hwj : IntKind.i64.wrap ((j : Int) + 1) = (j : Int) + 1 := wrap_midT (by omega) (by omega)
        obtain ⟨b', o', hbo, hlt, hcell⟩ := hat.up hb j hjn
        injection hbo with hbo
        injection hbo with hbo1 hbo2
        subst hbo1 hbo2
        have hll := flat_len_le P.pxX 2035 a.pools (fun y hy => by have := P.pxX_le y; omega) j
        have htk := take_flat P.pxX a.pools j hjn
        have hmem : a.pools[j] ∈ a.pools := List.getElem_mem hjn
        have hty := hta.2.2.2.2.2.2 _ hmem
        generalize hy : a.pools[j] = y at *
        clear hy
        obtain ⟨M, hM⟩ : ∃ M, M = L3 ++ (a.pools.take j).flatMap P.pxX := ⟨_, rfl⟩
        have hMl : M.length ≤ 12 + 2035 * j := by rw [hM, List.length_append]; omega
        have hMl2 : M.length ≤ 12 + 2035 * 40 := Nat.le_trans hMl (by have : 2035 * j ≤ 2035 * 40 := Nat.mul_le_mul_left _ (by omega); omega)
        have HM := Lib.hid (show L3 ++ (a.pools.take (j + 1)).flatMap P.pxX = M ++ P.pxX y by rw [htk, hM, List.append_assoc])
        rw [← hM] at hW
        clear hM htk hll hMl hmem
        have e0 := hcell 0 (by omega)
        have e1 := hcell 1 (by omega)
        have e2 := hcell 2 (by omega)
        have e3 := hcell 3 (by omega)
        clear hcell
        simp only [pxC, List.getElem?_cons_zero, List.getElem?_cons_succ, Nat.add_zero] at e0 e1 e2 e3
        obtain ⟨P0, hP0⟩ : ∃ L, L = M ++ P.pxX y := ⟨_, rfl⟩
        have hPl0 : P0.length ≤ 12 + 2035 * 40 + 18 := by rw [hP0, List.length_append]; have := P.pxX_le y; omega
        have HC0 := Lib.hid (fun wx (h : Wr wx (w.heap.size + 1 + 1) M) => show Calls Tryd.prog 32 #[.pointer (some ⟨w.heap.size + 1 + 1, 0, none⟩), pxV y] wx fun e w' => e = .returned (.tuple #[]) ∧ Wr w' (w.heap.size + 1 + 1) P0 ∧ Below (w.heap.size + 1 + 1) wx w' ∧ KeptW (w.heap.size + 1 + 1) wx w' from by rw [hP0]; exact wprefix_any _ M y wx (by omega) h hty)
        have HE := Lib.hid (show P0 = M ++ P.pxX y by first | (rw [hP0]; done) | (rw [hP0]; simp [P.pxX, P.leB]))
        clear hP0
        have hr0 := Bx.fresh wr 26 #[.int .u8 0, .int .u64 0, .int .u64 0, .int .i64 0]
        have hB0 := (Below.refl wr.heap.size wr).alloc (Nat.le_refl _) (.cells #[.int .u8 0, .int .u64 0, .int .u64 0, .int .i64 0] 26)
        go_wp2_with (first
          | (refine wpList_stB (by rfl) _ _ _ (by rfl) hr0 _ _ (by rfl) (by rfl) 4 4 (by rfl) (by rfl) (by decide) infoPx (by rfl) (by rfl) ?_; intro v0 hz' hs0; have hr1 : Bx v0 wr.heap.size 26 #[.int .u8 (y.a.fam : Nat), V64 y.a.hi, V64 y.a.lo, .int .i64 y.bits] := hz'; clear hz'; have hbs := hB0.trans (hs0.below (Nat.le_refl _) hB0.size); have hV0 := hW.up hbs; have d0 := hr1.cell 0; have d1 := hr1.cell 1; have d2 := hr1.cell 2; have d3 := hr1.cell 3; simp only [List.getElem?_toArray, List.getElem?_cons_succ, List.getElem?_cons_zero] at d0 d1 d2 d3)
              | (go_at_call 32; (with_reducible refine (HC0.out _ hV0).mono ?_); rintro e v1 ⟨rfl, hV1, hbv0, hkv0⟩; have hr2 := hr1.keptW hkv0 (by decide) (by omega); have d0 := hr2.cell 0; have d1 := hr2.cell 1; have d2 := hr2.cell 2; have d3 := hr2.cell 3; simp only [List.getElem?_toArray, List.getElem?_cons_succ, List.getElem?_cons_zero] at d0 d1 d2 d3))
        go_roundw
        case rel => exact ⟨j + 1, by omega, by go_num, by rw [HM.out, ← HE.out]; exact hV1, ((hb.trans (hbs.mono (by have := hb.size; omega))).trans (hbv0.mono (by omega)))⟩
        case measure => simp [intOf]; omega
      · have hji : decide ((j : Int) < (a.pools.length : Int)) = false := decide_eq_false (by omega)
        obtain rfl : j = a.pools.length := by omega
        rw [Hres.out] at hW
        obtain ⟨sa, sc, hwx, hwo⟩ := hW
        have q0 := hwx.cell 0
        go_wp2_with (refine wpList_conv_own (by rfl) hwo ?_)
        go_ret
        exact ⟨rfl, hb⟩
  · skip
    have t5 : ((x.op : Int) == 5) = false := beq_eq_false_iff_ne.2 (by omega)
    have t6 : ((x.op : Int) == 6) = false := beq_eq_false_iff_ne.2 (by omega)
    have t7 : ((x.op : Int) == 7) = false := beq_eq_false_iff_ne.2 (by omega)
    have t10 : ((x.op : Int) == 10) = false := beq_eq_false_iff_ne.2 (by omega)
    have t11 : ((x.op : Int) == 11) = false := beq_eq_false_iff_ne.2 (by omega)
    have t12 : ((x.op : Int) == 12) = false := beq_eq_false_iff_ne.2 (by omega)
    have t13 : ((x.op : Int) == 13) = false := beq_eq_false_iff_ne.2 (by omega)
    have t14 : ((x.op : Int) == 14) = true := beq_iff_eq.2 (by omega)
    clear hop
    go_enter Tryd.func21, Tryd.ntmps21
    go_upto_region 2 with fail
    generalize hW : ((w.alloc (.cells #[.int .u8 (x.op : Nat), .int .u8 (x.client : Nat), V64 x.number, .int .u8 (x.p.a.fam : Nat), V64 x.p.a.hi, V64 x.p.a.lo, .int .i64 x.p.bits, .int .u8 (x.a.fam : Nat), V64 x.a.hi, V64 x.a.lo, S x.owner, S x.to, V64 x.d, V64 x.fr, .int .i64 x.n] 28)).alloc (.cells #[.int .u8 (a.a.fam : Nat), V64 a.a.hi, V64 a.a.lo, S a.owner, V64 a.til, .int .u8 (a.pool.a.fam : Nat), V64 a.pool.a.hi, V64 a.pool.a.lo, .int .i64 a.pool.bits, .bool a.has, .bool a.held, .bool a.live, V64 a.clock, .slice r a.rows.length rc, .slice v a.events.length vc, .slice (some ⟨b, o, none⟩) a.pools.length pc] 36)).alloc (.cells #[.slice none 0 0] 87) = w1 at *
    clear hW
    have hW0 : Wr w1 (w.heap.size + 1 + 1) L0 := by rw [hL0]; exact ⟨none, 0, hwb, own_nil _ _⟩
    clear hwb
    go_wp2_with (first
      | (go_at_call 36; (with_reducible refine (H1.out _ hW0).mono ?_); rintro e w2 ⟨rfl, hW1, hb1, -⟩; have hc1 := hc.below hb1 (by omega); have ha1 := ha.below hb1 (by omega); have hA1 := hA.trans (hb1.mono (by omega)); obtain ⟨⟨c0, c1, c2, c3, c4, c5, c6, c7, c8, c9, c10, c11, c12, c13, c14⟩, -⟩ := hc1.cells15; skip)
      | (go_at_call 31; (with_reducible refine (H2.out _ hW1).mono ?_); rintro e w3 ⟨rfl, hW2, hb2, -⟩; have hc2 := hc1.below hb2 (by omega); have ha2 := ha1.below hb2 (by omega); have hA2 := hA1.trans (hb2.mono (by omega)); obtain ⟨⟨c0, -, -, -, -, -, -, -, -, -, -, -, -, -, -⟩, -⟩ := hc2.cells15; obtain ⟨⟨-, -, -, -, -, -, -, -, -, -, -, -, -, -, -, a15⟩, -⟩ := ha2.cells16; skip)
      | (go_at_call 36; (with_reducible refine (H3.out _ hW2).mono ?_); rintro e w4 ⟨rfl, hW3, hb3, -⟩; have hc3 := hc2.below hb3 (by omega); have ha3 := ha2.below hb3 (by omega); have hA3 := hA2.trans (hb3.mono (by omega)); obtain ⟨⟨-, -, -, -, -, -, -, -, -, -, -, -, -, -, -, a15⟩, -⟩ := ha3.cells16; skip))
    clear hc ha hA hc1 ha1 hA1 hc2 ha2 hA2 hW0 hW1 hW2 hb1 hb2 hb3 H1 H2 H3 hc3 ha3
    have hG : w.heap.size + 1 + 1 < w4.heap.size := hW3.lt
    go_loopw [13, 113] (fun _ i wr => ∃ j : Nat, j ≤ a.pools.length ∧ i = .int .i64 (j : Int) ∧ Wr wr (w.heap.size + 1 + 1) (L3 ++ (a.pools.take j).flatMap P.pxX) ∧ Below w.heap.size w wr) (fun _ i _ => a.pools.length - (intOf i).toNat)
    case atStart => exact ⟨0, by omega, rfl, by simpa using hW3, hA3⟩
    case round =>
      clear hW3 hA3 hG
      obtain ⟨j, hj, rfl, hW, hb⟩ := hrel
      have hG : w.heap.size + 1 + 1 < wr.heap.size := hW.lt
      by_cases hjn : j < a.pools.length
      · have hji : decide ((j : Int) < (a.pools.length : Int)) = true := decide_eq_true (by omega)
        have hwj : IntKind.i64.wrap ((j : Int) + 1) = (j : Int) + 1 := wrap_midT (by omega) (by omega)
        obtain ⟨b', o', hbo, hlt, hcell⟩ := hat.up hb j hjn
        injection hbo with hbo
        injection hbo with hbo1 hbo2
        subst hbo1 hbo2
        have hll := flat_len_le P.pxX 2035 a.pools (fun y hy => by have := P.pxX_le y; omega) j
        have htk := take_flat P.pxX a.pools j hjn
        have hmem : a.pools[j] ∈ a.pools := List.getElem_mem hjn
        have hty := hta.2.2.2.2.2.2 _ hmem
        generalize hy : a.pools[j] = y at *
        clear hy
        obtain ⟨M, hM⟩ : ∃ M, M = L3 ++ (a.pools.take j).flatMap P.pxX := ⟨_, rfl⟩
        have hMl : M.length ≤ 12 + 2035 * j := by rw [hM, List.length_append]; omega
        have hMl2 : M.length ≤ 12 + 2035 * 40 := Nat.le_trans hMl (by have : 2035 * j ≤ 2035 * 40 := Nat.mul_le_mul_left _ (by omega); omega)
        have HM := Lib.hid (show L3 ++ (a.pools.take (j + 1)).flatMap P.pxX = M ++ P.pxX y by rw [htk, hM, List.append_assoc])
        rw [← hM] at hW
        clear hM htk hll hMl hmem
        have e0 := hcell 0 (by omega)
        have e1 := hcell 1 (by omega)
        have e2 := hcell 2 (by omega)
        have e3 := hcell 3 (by omega)
        clear hcell
        simp only [pxC, List.getElem?_cons_zero, List.getElem?_cons_succ, Nat.add_zero] at e0 e1 e2 e3
        obtain ⟨P0, hP0⟩ : ∃ L, L = M ++ P.pxX y := ⟨_, rfl⟩
        have hPl0 : P0.length ≤ 12 + 2035 * 40 + 18 := by rw [hP0, List.length_append]; have := P.pxX_le y; omega
        have HC0 := Lib.hid (fun wx (h : Wr wx (w.heap.size + 1 + 1) M) => show Calls Tryd.prog 32 #[.pointer (some ⟨w.heap.size + 1 + 1, 0, none⟩), pxV y] wx fun e w' => e = .returned (.tuple #[]) ∧ Wr w' (w.heap.size + 1 + 1) P0 ∧ Below (w.heap.size + 1 + 1) wx w' ∧ KeptW (w.heap.size + 1 + 1) wx w' from by rw [hP0]; exact wprefix_any _ M y wx (by omega) h hty)
        have HE := Lib.hid (show P0 = M ++ P.pxX y by first | (rw [hP0]; done) | (rw [hP0]; simp [P.pxX, P.leB]))
        clear hP0
        have hr0 := Bx.fresh wr 26 #[.int .u8 0, .int .u64 0, .int .u64 0, .int .i64 0]
        have hB0 := (Below.refl wr.heap.size wr).alloc (Nat.le_refl _) (.cells #[.int .u8 0, .int .u64 0, .int .u64 0, .int .i64 0] 26)
        go_wp2_with (first
          | (refine wpList_stB (by rfl) _ _ _ (by rfl) hr0 _ _ (by rfl) (by rfl) 4 4 (by rfl) (by rfl) (by decide) infoPx (by rfl) (by rfl) ?_; intro v0 hz' hs0; have hr1 : Bx v0 wr.heap.size 26 #[.int .u8 (y.a.fam : Nat), V64 y.a.hi, V64 y.a.lo, .int .i64 y.bits] := hz'; clear hz'; have hbs := hB0.trans (hs0.below (Nat.le_refl _) hB0.size); have hV0 := hW.up hbs; have d0 := hr1.cell 0; have d1 := hr1.cell 1; have d2 := hr1.cell 2; have d3 := hr1.cell 3; simp only [List.getElem?_toArray, List.getElem?_cons_succ, List.getElem?_cons_zero] at d0 d1 d2 d3)
              | (go_at_call 32; (with_reducible refine (HC0.out _ hV0).mono ?_); rintro e v1 ⟨rfl, hV1, hbv0, hkv0⟩; have hr2 := hr1.keptW hkv0 (by decide) (by omega); have d0 := hr2.cell 0; have d1 := hr2.cell 1; have d2 := hr2.cell 2; have d3 := hr2.cell 3; simp only [List.getElem?_toArray, List.getElem?_cons_succ, List.getElem?_cons_zero] at d0 d1 d2 d3))
        go_roundw
        case rel => exact ⟨j + 1, by omega, by go_num, by rw [HM.out, ← HE.out]; exact hV1, ((hb.trans (hbs.mono (by have := hb.size; omega))).trans (hbv0.mono (by omega)))⟩
        case measure => simp [intOf]; omega
      · have hji : decide ((j : Int) < (a.pools.length : Int)) = false := decide_eq_false (by omega)
        obtain rfl : j = a.pools.length := by omega
        rw [Hres.out] at hW
        obtain ⟨sa, sc, hwx, hwo⟩ := hW
        have q0 := hwx.cell 0
        go_wp2_with (refine wpList_conv_own (by rfl) hwo ?_)
        go_ret
        exact ⟨rfl, hb⟩
end Go.Proofs.YtcobfoiajdbahaaDoor

namespace Go.Proofs.YtcobfoiajdbahaaDoor
open Go.RowKit
set_option linter.unusedVariables false
set_option linter.unusedSimpArgs false
theorem P.lkB_le {a : P.An} (h : a.owner.length ≤ 20000) : (P.lkB a).length ≤ 20037 := by
  unfold P.lkB
  have h1 := P.pxX_le a.pool
  have h2 := P.leB_le h a.til
  rw [List.length_cons, List.length_append]
  split <;> split <;> (try simp only [List.length_nil]) <;> omega
theorem orb01 : bits .or .i64 0 1 = 1 := by decide
theorem orb02 : bits .or .i64 0 2 = 2 := by decide
theorem orb12 : bits .or .i64 1 2 = 3 := by decide
theorem orb04 : bits .or .i64 0 4 = 4 := by decide
theorem orb14 : bits .or .i64 1 4 = 5 := by decide
theorem orb24 : bits .or .i64 2 4 = 6 := by decide
theorem orb34 : bits .or .i64 3 4 = 7 := by decide
set_option maxRecDepth 100000 in
set_option maxHeartbeats 16000000 in
theorem wlook_any (g : Nat) (l : List UInt8) (a : P.An) (r : Option Addr) (rc : Nat) (v : Option Addr) (vc : Nat) (p : Option Addr) (pc : Nat) (w : World) (hl : l.length ≤ 700000) (h : Wr w g l) (ho : a.owner.length ≤ 20000) (hta : P.tyAn a) :
    Calls Tryd.prog 64 #[.pointer (some ⟨g, 0, none⟩), anV a r rc v vc p pc] w fun e w' => e = .returned (.tuple #[]) ∧ Wr w' g (l ++ P.lkB a) ∧ Below g w w' ∧ KeptW g w w' := by
  obtain ⟨aa, ow, ti, po, has, held, live, ck, rows, ev, ps⟩ := a
  have hgl := h.lt
  have hne : w.heap.size ≠ g := by omega
  have hti := hta.2.1
  have hpo := hta.2.2.1
  simp only at ho hti hpo
  have hor := Lib.hid (And.intro orb01 (And.intro orb02 (And.intro orb12 (And.intro orb04 (And.intro orb14 (And.intro orb24 orb34))))))
  obtain ⟨o1, o2, o3, o4, o5, o6, o7⟩ := hor.out
  clear hta hor
  cases has <;> cases held <;> cases live
  · have hb0 := Bx.fresh w 36 #[.int .u8 (aa.fam : Nat), V64 aa.hi, V64 aa.lo, S ow, V64 ti, .int .u8 (po.a.fam : Nat), V64 po.a.hi, V64 po.a.lo, .int .i64 po.bits, .bool false, .bool false, .bool false, V64 ck, .slice r rows.length rc, .slice v ev.length vc, .slice p ps.length pc]
    have hA := (Below.refl w.heap.size w).alloc (Nat.le_refl _) (.cells #[.int .u8 (aa.fam : Nat), V64 aa.hi, V64 aa.lo, S ow, V64 ti, .int .u8 (po.a.fam : Nat), V64 po.a.hi, V64 po.a.lo, .int .i64 po.bits, .bool false, .bool false, .bool false, V64 ck, .slice r rows.length rc, .slice v ev.length vc, .slice p ps.length pc] 36)
    have hW0 := h.up hA
    obtain ⟨⟨-, -, -, -, -, -, -, -, -, c9, c10, c11, -⟩, -⟩ := hb0.cells16
    obtain ⟨L1, hL1⟩ : ∃ L, L = l ++ [P.byI 0] := ⟨_, rfl⟩
    have hl1 : L1.length ≤ 700001 := by rw [hL1, List.length_append]; simp only [List.length_singleton]; omega
    have H1 := Lib.hid (fun wx (h : Wr wx g l) => show Calls Tryd.prog 36 #[.pointer (some ⟨g, 0, none⟩), .int .i64 0] wx fun e w' => e = .returned (.tuple #[]) ∧ Wr w' g L1 ∧ Below g wx w' ∧ KeptW g wx w' from by rw [hL1]; exact wbyte_any g l 0 wx (by omega) h)
    have Hres := Lib.hid (show L1 = l ++ P.lkB ⟨aa, ow, ti, po, false, false, false, ck, rows, ev, ps⟩ by rw [hL1]; simp [P.lkB, P.lkN]; rfl)
    clear hL1
    go_enter Tryd.func64, Tryd.ntmps64
    go_wp2_with (first
      | (go_at_call 36; (with_reducible refine (H1.out _ hW0).mono ?_); rintro e w2 ⟨rfl, hW2, hb2, hk2⟩; have hx2 := hb0.keptW hk2 (by decide) hne; have hd2 := (hA.mono (Nat.le_of_lt hgl)).trans hb2; have hkk2 := (KeptW.of hA).trans hk2; obtain ⟨⟨-, -, -, c3, c4, c5, c6, c7, c8, c9, c10, c11, -⟩, -⟩ := hx2.cells16))
    go_end0
    exact ⟨rfl, by rw [← Hres.out]; exact hW2, hd2, hkk2⟩
  · have hb0 := Bx.fresh w 36 #[.int .u8 (aa.fam : Nat), V64 aa.hi, V64 aa.lo, S ow, V64 ti, .int .u8 (po.a.fam : Nat), V64 po.a.hi, V64 po.a.lo, .int .i64 po.bits, .bool false, .bool false, .bool true, V64 ck, .slice r rows.length rc, .slice v ev.length vc, .slice p ps.length pc]
    have hA := (Below.refl w.heap.size w).alloc (Nat.le_refl _) (.cells #[.int .u8 (aa.fam : Nat), V64 aa.hi, V64 aa.lo, S ow, V64 ti, .int .u8 (po.a.fam : Nat), V64 po.a.hi, V64 po.a.lo, .int .i64 po.bits, .bool false, .bool false, .bool true, V64 ck, .slice r rows.length rc, .slice v ev.length vc, .slice p ps.length pc] 36)
    have hW0 := h.up hA
    obtain ⟨⟨-, -, -, -, -, -, -, -, -, c9, c10, c11, -⟩, -⟩ := hb0.cells16
    obtain ⟨L1, hL1⟩ : ∃ L, L = l ++ [P.byI 4] := ⟨_, rfl⟩
    have hl1 : L1.length ≤ 700001 := by rw [hL1, List.length_append]; simp only [List.length_singleton]; omega
    have H1 := Lib.hid (fun wx (h : Wr wx g l) => show Calls Tryd.prog 36 #[.pointer (some ⟨g, 0, none⟩), .int .i64 4] wx fun e w' => e = .returned (.tuple #[]) ∧ Wr w' g L1 ∧ Below g wx w' ∧ KeptW g wx w' from by rw [hL1]; exact wbyte_any g l 4 wx (by omega) h)
    obtain ⟨L3, hL3⟩ : ∃ L, L = L1 ++ P.leB ow ti := ⟨_, rfl⟩
    have H3 := Lib.hid (fun wx (h : Wr wx g L1) => show Calls Tryd.prog 63 #[.pointer (some ⟨g, 0, none⟩), .agg #[S ow, V64 ti]] wx fun e w' => e = .returned (.tuple #[]) ∧ Wr w' g L3 ∧ Below g wx w' ∧ KeptW g wx w' from by rw [hL3]; exact wlease_any g L1 (ow, ti) wx (by omega) h ho hti)
    have Hres := Lib.hid (show L3 = l ++ P.lkB ⟨aa, ow, ti, po, false, false, true, ck, rows, ev, ps⟩ by rw [hL3, hL1]; simp [P.lkB, P.lkN]; rfl)
    clear hL3 hL1
    go_enter Tryd.func64, Tryd.ntmps64
    go_wp2_with (first
      | (go_at_call 36; (with_reducible refine (H1.out _ hW0).mono ?_); rintro e w2 ⟨rfl, hW2, hb2, hk2⟩; have hx2 := hb0.keptW hk2 (by decide) hne; have hd2 := (hA.mono (Nat.le_of_lt hgl)).trans hb2; have hkk2 := (KeptW.of hA).trans hk2; obtain ⟨⟨-, -, -, c3, c4, c5, c6, c7, c8, c9, c10, c11, -⟩, -⟩ := hx2.cells16)
      | (go_at_call 63; (with_reducible refine (H3.out _ hW2).mono ?_); rintro e w4 ⟨rfl, hW4, hb4, hk4⟩; have hd4 := hd2.trans hb4; have hkk4 := hkk2.trans hk4))
    go_end0
    exact ⟨rfl, by rw [← Hres.out]; exact hW4, hd4, hkk4⟩
  · have hb0 := Bx.fresh w 36 #[.int .u8 (aa.fam : Nat), V64 aa.hi, V64 aa.lo, S ow, V64 ti, .int .u8 (po.a.fam : Nat), V64 po.a.hi, V64 po.a.lo, .int .i64 po.bits, .bool false, .bool true, .bool false, V64 ck, .slice r rows.length rc, .slice v ev.length vc, .slice p ps.length pc]
    have hA := (Below.refl w.heap.size w).alloc (Nat.le_refl _) (.cells #[.int .u8 (aa.fam : Nat), V64 aa.hi, V64 aa.lo, S ow, V64 ti, .int .u8 (po.a.fam : Nat), V64 po.a.hi, V64 po.a.lo, .int .i64 po.bits, .bool false, .bool true, .bool false, V64 ck, .slice r rows.length rc, .slice v ev.length vc, .slice p ps.length pc] 36)
    have hW0 := h.up hA
    obtain ⟨⟨-, -, -, -, -, -, -, -, -, c9, c10, c11, -⟩, -⟩ := hb0.cells16
    obtain ⟨L1, hL1⟩ : ∃ L, L = l ++ [P.byI 2] := ⟨_, rfl⟩
    have hl1 : L1.length ≤ 700001 := by rw [hL1, List.length_append]; simp only [List.length_singleton]; omega
    have H1 := Lib.hid (fun wx (h : Wr wx g l) => show Calls Tryd.prog 36 #[.pointer (some ⟨g, 0, none⟩), .int .i64 2] wx fun e w' => e = .returned (.tuple #[]) ∧ Wr w' g L1 ∧ Below g wx w' ∧ KeptW g wx w' from by rw [hL1]; exact wbyte_any g l 2 wx (by omega) h)
    have Hres := Lib.hid (show L1 = l ++ P.lkB ⟨aa, ow, ti, po, false, true, false, ck, rows, ev, ps⟩ by rw [hL1]; simp [P.lkB, P.lkN]; rfl)
    clear hL1
    go_enter Tryd.func64, Tryd.ntmps64
    go_wp2_with (first
      | (go_at_call 36; (with_reducible refine (H1.out _ hW0).mono ?_); rintro e w2 ⟨rfl, hW2, hb2, hk2⟩; have hx2 := hb0.keptW hk2 (by decide) hne; have hd2 := (hA.mono (Nat.le_of_lt hgl)).trans hb2; have hkk2 := (KeptW.of hA).trans hk2; obtain ⟨⟨-, -, -, c3, c4, c5, c6, c7, c8, c9, c10, c11, -⟩, -⟩ := hx2.cells16))
    go_end0
    exact ⟨rfl, by rw [← Hres.out]; exact hW2, hd2, hkk2⟩
  · have hb0 := Bx.fresh w 36 #[.int .u8 (aa.fam : Nat), V64 aa.hi, V64 aa.lo, S ow, V64 ti, .int .u8 (po.a.fam : Nat), V64 po.a.hi, V64 po.a.lo, .int .i64 po.bits, .bool false, .bool true, .bool true, V64 ck, .slice r rows.length rc, .slice v ev.length vc, .slice p ps.length pc]
    have hA := (Below.refl w.heap.size w).alloc (Nat.le_refl _) (.cells #[.int .u8 (aa.fam : Nat), V64 aa.hi, V64 aa.lo, S ow, V64 ti, .int .u8 (po.a.fam : Nat), V64 po.a.hi, V64 po.a.lo, .int .i64 po.bits, .bool false, .bool true, .bool true, V64 ck, .slice r rows.length rc, .slice v ev.length vc, .slice p ps.length pc] 36)
    have hW0 := h.up hA
    obtain ⟨⟨-, -, -, -, -, -, -, -, -, c9, c10, c11, -⟩, -⟩ := hb0.cells16
    obtain ⟨L1, hL1⟩ : ∃ L, L = l ++ [P.byI 6] := ⟨_, rfl⟩
    have hl1 : L1.length ≤ 700001 := by rw [hL1, List.length_append]; simp only [List.length_singleton]; omega
    have H1 := Lib.hid (fun wx (h : Wr wx g l) => show Calls Tryd.prog 36 #[.pointer (some ⟨g, 0, none⟩), .int .i64 6] wx fun e w' => e = .returned (.tuple #[]) ∧ Wr w' g L1 ∧ Below g wx w' ∧ KeptW g wx w' from by rw [hL1]; exact wbyte_any g l 6 wx (by omega) h)
    obtain ⟨L3, hL3⟩ : ∃ L, L = L1 ++ P.leB ow ti := ⟨_, rfl⟩
    have H3 := Lib.hid (fun wx (h : Wr wx g L1) => show Calls Tryd.prog 63 #[.pointer (some ⟨g, 0, none⟩), .agg #[S ow, V64 ti]] wx fun e w' => e = .returned (.tuple #[]) ∧ Wr w' g L3 ∧ Below g wx w' ∧ KeptW g wx w' from by rw [hL3]; exact wlease_any g L1 (ow, ti) wx (by omega) h ho hti)
    have Hres := Lib.hid (show L3 = l ++ P.lkB ⟨aa, ow, ti, po, false, true, true, ck, rows, ev, ps⟩ by rw [hL3, hL1]; simp [P.lkB, P.lkN]; rfl)
    clear hL3 hL1
    go_enter Tryd.func64, Tryd.ntmps64
    go_wp2_with (first
      | (go_at_call 36; (with_reducible refine (H1.out _ hW0).mono ?_); rintro e w2 ⟨rfl, hW2, hb2, hk2⟩; have hx2 := hb0.keptW hk2 (by decide) hne; have hd2 := (hA.mono (Nat.le_of_lt hgl)).trans hb2; have hkk2 := (KeptW.of hA).trans hk2; obtain ⟨⟨-, -, -, c3, c4, c5, c6, c7, c8, c9, c10, c11, -⟩, -⟩ := hx2.cells16)
      | (go_at_call 63; (with_reducible refine (H3.out _ hW2).mono ?_); rintro e w4 ⟨rfl, hW4, hb4, hk4⟩; have hd4 := hd2.trans hb4; have hkk4 := hkk2.trans hk4))
    go_end0
    exact ⟨rfl, by rw [← Hres.out]; exact hW4, hd4, hkk4⟩
  · have hb0 := Bx.fresh w 36 #[.int .u8 (aa.fam : Nat), V64 aa.hi, V64 aa.lo, S ow, V64 ti, .int .u8 (po.a.fam : Nat), V64 po.a.hi, V64 po.a.lo, .int .i64 po.bits, .bool true, .bool false, .bool false, V64 ck, .slice r rows.length rc, .slice v ev.length vc, .slice p ps.length pc]
    have hA := (Below.refl w.heap.size w).alloc (Nat.le_refl _) (.cells #[.int .u8 (aa.fam : Nat), V64 aa.hi, V64 aa.lo, S ow, V64 ti, .int .u8 (po.a.fam : Nat), V64 po.a.hi, V64 po.a.lo, .int .i64 po.bits, .bool true, .bool false, .bool false, V64 ck, .slice r rows.length rc, .slice v ev.length vc, .slice p ps.length pc] 36)
    have hW0 := h.up hA
    obtain ⟨⟨-, -, -, -, -, -, -, -, -, c9, c10, c11, -⟩, -⟩ := hb0.cells16
    obtain ⟨L1, hL1⟩ : ∃ L, L = l ++ [P.byI 1] := ⟨_, rfl⟩
    have hl1 : L1.length ≤ 700001 := by rw [hL1, List.length_append]; simp only [List.length_singleton]; omega
    have H1 := Lib.hid (fun wx (h : Wr wx g l) => show Calls Tryd.prog 36 #[.pointer (some ⟨g, 0, none⟩), .int .i64 1] wx fun e w' => e = .returned (.tuple #[]) ∧ Wr w' g L1 ∧ Below g wx w' ∧ KeptW g wx w' from by rw [hL1]; exact wbyte_any g l 1 wx (by omega) h)
    obtain ⟨L2, hL2⟩ : ∃ L, L = L1 ++ P.pxX po := ⟨_, rfl⟩
    have hl2 : L2.length ≤ 700019 := by rw [hL2, List.length_append]; have := P.pxX_le po; omega
    have H2 := Lib.hid (fun wx (h : Wr wx g L1) => show Calls Tryd.prog 32 #[.pointer (some ⟨g, 0, none⟩), pxV po] wx fun e w' => e = .returned (.tuple #[]) ∧ Wr w' g L2 ∧ Below g wx w' ∧ KeptW g wx w' from by rw [hL2]; exact wprefix_any g L1 po wx (by omega) h hpo)
    have Hres := Lib.hid (show L2 = l ++ P.lkB ⟨aa, ow, ti, po, true, false, false, ck, rows, ev, ps⟩ by rw [hL2, hL1]; simp [P.lkB, P.lkN]; rfl)
    clear hL2 hL1
    go_enter Tryd.func64, Tryd.ntmps64
    go_wp2_with (first
      | (go_at_call 36; (with_reducible refine (H1.out _ hW0).mono ?_); rintro e w2 ⟨rfl, hW2, hb2, hk2⟩; have hx2 := hb0.keptW hk2 (by decide) hne; have hd2 := (hA.mono (Nat.le_of_lt hgl)).trans hb2; have hkk2 := (KeptW.of hA).trans hk2; obtain ⟨⟨-, -, -, c3, c4, c5, c6, c7, c8, c9, c10, c11, -⟩, -⟩ := hx2.cells16)
      | (go_at_call 32; (with_reducible refine (H2.out _ hW2).mono ?_); rintro e w3 ⟨rfl, hW3, hb3, hk3⟩; have hx3 := hx2.keptW hk3 (by decide) hne; have hd3 := hd2.trans hb3; have hkk3 := hkk2.trans hk3; obtain ⟨⟨-, -, -, c3, c4, c5, c6, c7, c8, c9, c10, c11, -⟩, -⟩ := hx3.cells16))
    go_end0
    exact ⟨rfl, by rw [← Hres.out]; exact hW3, hd3, hkk3⟩
  · have hb0 := Bx.fresh w 36 #[.int .u8 (aa.fam : Nat), V64 aa.hi, V64 aa.lo, S ow, V64 ti, .int .u8 (po.a.fam : Nat), V64 po.a.hi, V64 po.a.lo, .int .i64 po.bits, .bool true, .bool false, .bool true, V64 ck, .slice r rows.length rc, .slice v ev.length vc, .slice p ps.length pc]
    have hA := (Below.refl w.heap.size w).alloc (Nat.le_refl _) (.cells #[.int .u8 (aa.fam : Nat), V64 aa.hi, V64 aa.lo, S ow, V64 ti, .int .u8 (po.a.fam : Nat), V64 po.a.hi, V64 po.a.lo, .int .i64 po.bits, .bool true, .bool false, .bool true, V64 ck, .slice r rows.length rc, .slice v ev.length vc, .slice p ps.length pc] 36)
    have hW0 := h.up hA
    obtain ⟨⟨-, -, -, -, -, -, -, -, -, c9, c10, c11, -⟩, -⟩ := hb0.cells16
    obtain ⟨L1, hL1⟩ : ∃ L, L = l ++ [P.byI 5] := ⟨_, rfl⟩
    have hl1 : L1.length ≤ 700001 := by rw [hL1, List.length_append]; simp only [List.length_singleton]; omega
    have H1 := Lib.hid (fun wx (h : Wr wx g l) => show Calls Tryd.prog 36 #[.pointer (some ⟨g, 0, none⟩), .int .i64 5] wx fun e w' => e = .returned (.tuple #[]) ∧ Wr w' g L1 ∧ Below g wx w' ∧ KeptW g wx w' from by rw [hL1]; exact wbyte_any g l 5 wx (by omega) h)
    obtain ⟨L2, hL2⟩ : ∃ L, L = L1 ++ P.pxX po := ⟨_, rfl⟩
    have hl2 : L2.length ≤ 700019 := by rw [hL2, List.length_append]; have := P.pxX_le po; omega
    have H2 := Lib.hid (fun wx (h : Wr wx g L1) => show Calls Tryd.prog 32 #[.pointer (some ⟨g, 0, none⟩), pxV po] wx fun e w' => e = .returned (.tuple #[]) ∧ Wr w' g L2 ∧ Below g wx w' ∧ KeptW g wx w' from by rw [hL2]; exact wprefix_any g L1 po wx (by omega) h hpo)
    obtain ⟨L3, hL3⟩ : ∃ L, L = L2 ++ P.leB ow ti := ⟨_, rfl⟩
    have H3 := Lib.hid (fun wx (h : Wr wx g L2) => show Calls Tryd.prog 63 #[.pointer (some ⟨g, 0, none⟩), .agg #[S ow, V64 ti]] wx fun e w' => e = .returned (.tuple #[]) ∧ Wr w' g L3 ∧ Below g wx w' ∧ KeptW g wx w' from by rw [hL3]; exact wlease_any g L2 (ow, ti) wx (by omega) h ho hti)
    have Hres := Lib.hid (show L3 = l ++ P.lkB ⟨aa, ow, ti, po, true, false, true, ck, rows, ev, ps⟩ by rw [hL3, hL2, hL1]; simp [P.lkB, P.lkN]; rfl)
    clear hL3 hL2 hL1
    go_enter Tryd.func64, Tryd.ntmps64
    go_wp2_with (first
      | (go_at_call 36; (with_reducible refine (H1.out _ hW0).mono ?_); rintro e w2 ⟨rfl, hW2, hb2, hk2⟩; have hx2 := hb0.keptW hk2 (by decide) hne; have hd2 := (hA.mono (Nat.le_of_lt hgl)).trans hb2; have hkk2 := (KeptW.of hA).trans hk2; obtain ⟨⟨-, -, -, c3, c4, c5, c6, c7, c8, c9, c10, c11, -⟩, -⟩ := hx2.cells16)
      | (go_at_call 32; (with_reducible refine (H2.out _ hW2).mono ?_); rintro e w3 ⟨rfl, hW3, hb3, hk3⟩; have hx3 := hx2.keptW hk3 (by decide) hne; have hd3 := hd2.trans hb3; have hkk3 := hkk2.trans hk3; obtain ⟨⟨-, -, -, c3, c4, c5, c6, c7, c8, c9, c10, c11, -⟩, -⟩ := hx3.cells16)
      | (go_at_call 63; (with_reducible refine (H3.out _ hW3).mono ?_); rintro e w4 ⟨rfl, hW4, hb4, hk4⟩; have hd4 := hd3.trans hb4; have hkk4 := hkk3.trans hk4))
    go_end0
    exact ⟨rfl, by rw [← Hres.out]; exact hW4, hd4, hkk4⟩
  · have hb0 := Bx.fresh w 36 #[.int .u8 (aa.fam : Nat), V64 aa.hi, V64 aa.lo, S ow, V64 ti, .int .u8 (po.a.fam : Nat), V64 po.a.hi, V64 po.a.lo, .int .i64 po.bits, .bool true, .bool true, .bool false, V64 ck, .slice r rows.length rc, .slice v ev.length vc, .slice p ps.length pc]
    have hA := (Below.refl w.heap.size w).alloc (Nat.le_refl _) (.cells #[.int .u8 (aa.fam : Nat), V64 aa.hi, V64 aa.lo, S ow, V64 ti, .int .u8 (po.a.fam : Nat), V64 po.a.hi, V64 po.a.lo, .int .i64 po.bits, .bool true, .bool true, .bool false, V64 ck, .slice r rows.length rc, .slice v ev.length vc, .slice p ps.length pc] 36)
    have hW0 := h.up hA
    obtain ⟨⟨-, -, -, -, -, -, -, -, -, c9, c10, c11, -⟩, -⟩ := hb0.cells16
    obtain ⟨L1, hL1⟩ : ∃ L, L = l ++ [P.byI 3] := ⟨_, rfl⟩
    have hl1 : L1.length ≤ 700001 := by rw [hL1, List.length_append]; simp only [List.length_singleton]; omega
    have H1 := Lib.hid (fun wx (h : Wr wx g l) => show Calls Tryd.prog 36 #[.pointer (some ⟨g, 0, none⟩), .int .i64 3] wx fun e w' => e = .returned (.tuple #[]) ∧ Wr w' g L1 ∧ Below g wx w' ∧ KeptW g wx w' from by rw [hL1]; exact wbyte_any g l 3 wx (by omega) h)
    obtain ⟨L2, hL2⟩ : ∃ L, L = L1 ++ P.pxX po := ⟨_, rfl⟩
    have hl2 : L2.length ≤ 700019 := by rw [hL2, List.length_append]; have := P.pxX_le po; omega
    have H2 := Lib.hid (fun wx (h : Wr wx g L1) => show Calls Tryd.prog 32 #[.pointer (some ⟨g, 0, none⟩), pxV po] wx fun e w' => e = .returned (.tuple #[]) ∧ Wr w' g L2 ∧ Below g wx w' ∧ KeptW g wx w' from by rw [hL2]; exact wprefix_any g L1 po wx (by omega) h hpo)
    have Hres := Lib.hid (show L2 = l ++ P.lkB ⟨aa, ow, ti, po, true, true, false, ck, rows, ev, ps⟩ by rw [hL2, hL1]; simp [P.lkB, P.lkN]; rfl)
    clear hL2 hL1
    go_enter Tryd.func64, Tryd.ntmps64
    go_wp2_with (first
      | (go_at_call 36; (with_reducible refine (H1.out _ hW0).mono ?_); rintro e w2 ⟨rfl, hW2, hb2, hk2⟩; have hx2 := hb0.keptW hk2 (by decide) hne; have hd2 := (hA.mono (Nat.le_of_lt hgl)).trans hb2; have hkk2 := (KeptW.of hA).trans hk2; obtain ⟨⟨-, -, -, c3, c4, c5, c6, c7, c8, c9, c10, c11, -⟩, -⟩ := hx2.cells16)
      | (go_at_call 32; (with_reducible refine (H2.out _ hW2).mono ?_); rintro e w3 ⟨rfl, hW3, hb3, hk3⟩; have hx3 := hx2.keptW hk3 (by decide) hne; have hd3 := hd2.trans hb3; have hkk3 := hkk2.trans hk3; obtain ⟨⟨-, -, -, c3, c4, c5, c6, c7, c8, c9, c10, c11, -⟩, -⟩ := hx3.cells16))
    go_end0
    exact ⟨rfl, by rw [← Hres.out]; exact hW3, hd3, hkk3⟩
  · have hb0 := Bx.fresh w 36 #[.int .u8 (aa.fam : Nat), V64 aa.hi, V64 aa.lo, S ow, V64 ti, .int .u8 (po.a.fam : Nat), V64 po.a.hi, V64 po.a.lo, .int .i64 po.bits, .bool true, .bool true, .bool true, V64 ck, .slice r rows.length rc, .slice v ev.length vc, .slice p ps.length pc]
    have hA := (Below.refl w.heap.size w).alloc (Nat.le_refl _) (.cells #[.int .u8 (aa.fam : Nat), V64 aa.hi, V64 aa.lo, S ow, V64 ti, .int .u8 (po.a.fam : Nat), V64 po.a.hi, V64 po.a.lo, .int .i64 po.bits, .bool true, .bool true, .bool true, V64 ck, .slice r rows.length rc, .slice v ev.length vc, .slice p ps.length pc] 36)
    have hW0 := h.up hA
    obtain ⟨⟨-, -, -, -, -, -, -, -, -, c9, c10, c11, -⟩, -⟩ := hb0.cells16
    obtain ⟨L1, hL1⟩ : ∃ L, L = l ++ [P.byI 7] := ⟨_, rfl⟩
    have hl1 : L1.length ≤ 700001 := by rw [hL1, List.length_append]; simp only [List.length_singleton]; omega
    have H1 := Lib.hid (fun wx (h : Wr wx g l) => show Calls Tryd.prog 36 #[.pointer (some ⟨g, 0, none⟩), .int .i64 7] wx fun e w' => e = .returned (.tuple #[]) ∧ Wr w' g L1 ∧ Below g wx w' ∧ KeptW g wx w' from by rw [hL1]; exact wbyte_any g l 7 wx (by omega) h)
    obtain ⟨L2, hL2⟩ : ∃ L, L = L1 ++ P.pxX po := ⟨_, rfl⟩
    have hl2 : L2.length ≤ 700019 := by rw [hL2, List.length_append]; have := P.pxX_le po; omega
    have H2 := Lib.hid (fun wx (h : Wr wx g L1) => show Calls Tryd.prog 32 #[.pointer (some ⟨g, 0, none⟩), pxV po] wx fun e w' => e = .returned (.tuple #[]) ∧ Wr w' g L2 ∧ Below g wx w' ∧ KeptW g wx w' from by rw [hL2]; exact wprefix_any g L1 po wx (by omega) h hpo)
    obtain ⟨L3, hL3⟩ : ∃ L, L = L2 ++ P.leB ow ti := ⟨_, rfl⟩
    have H3 := Lib.hid (fun wx (h : Wr wx g L2) => show Calls Tryd.prog 63 #[.pointer (some ⟨g, 0, none⟩), .agg #[S ow, V64 ti]] wx fun e w' => e = .returned (.tuple #[]) ∧ Wr w' g L3 ∧ Below g wx w' ∧ KeptW g wx w' from by rw [hL3]; exact wlease_any g L2 (ow, ti) wx (by omega) h ho hti)
    have Hres := Lib.hid (show L3 = l ++ P.lkB ⟨aa, ow, ti, po, true, true, true, ck, rows, ev, ps⟩ by rw [hL3, hL2, hL1]; simp [P.lkB, P.lkN]; rfl)
    clear hL3 hL2 hL1
    go_enter Tryd.func64, Tryd.ntmps64
    go_wp2_with (first
      | (go_at_call 36; (with_reducible refine (H1.out _ hW0).mono ?_); rintro e w2 ⟨rfl, hW2, hb2, hk2⟩; have hx2 := hb0.keptW hk2 (by decide) hne; have hd2 := (hA.mono (Nat.le_of_lt hgl)).trans hb2; have hkk2 := (KeptW.of hA).trans hk2; obtain ⟨⟨-, -, -, c3, c4, c5, c6, c7, c8, c9, c10, c11, -⟩, -⟩ := hx2.cells16)
      | (go_at_call 32; (with_reducible refine (H2.out _ hW2).mono ?_); rintro e w3 ⟨rfl, hW3, hb3, hk3⟩; have hx3 := hx2.keptW hk3 (by decide) hne; have hd3 := hd2.trans hb3; have hkk3 := hkk2.trans hk3; obtain ⟨⟨-, -, -, c3, c4, c5, c6, c7, c8, c9, c10, c11, -⟩, -⟩ := hx3.cells16)
      | (go_at_call 63; (with_reducible refine (H3.out _ hW3).mono ?_); rintro e w4 ⟨rfl, hW4, hb4, hk4⟩; have hd4 := hd3.trans hb4; have hkk4 := hkk3.trans hk4))
    go_end0
    exact ⟨rfl, by rw [← Hres.out]; exact hW4, hd4, hkk4⟩
set_option maxRecDepth 100000 in
set_option maxHeartbeats 8000000 in
theorem tell_look (x : P.Ca) (a : P.An) (r : Option Addr) (rc : Nat) (v : Option Addr) (vc : Nat) (p : Option Addr) (pc : Nat) (ht : P.tyC x) (hta : P.tyAn a) (ho : a.owner.length ≤ 20000) (hop : x.op = 10) (w : World) :
    Calls Tryd.prog 21 #[caV x, anV a r rc v vc p pc, .int .i64 0] w fun e' w' => e' = .returned (S (P.tellB x.op x.client x.number a 0)) ∧ Below w.heap.size w w' := by
  obtain ⟨hc, ha, hwb, hA⟩ := three_bx w #[.int .u8 (x.op : Nat), .int .u8 (x.client : Nat), V64 x.number, .int .u8 (x.p.a.fam : Nat), V64 x.p.a.hi, V64 x.p.a.lo, .int .i64 x.p.bits, .int .u8 (x.a.fam : Nat), V64 x.a.hi, V64 x.a.lo, S x.owner, S x.to, V64 x.d, V64 x.fr, .int .i64 x.n] #[.int .u8 (a.a.fam : Nat), V64 a.a.hi, V64 a.a.lo, S a.owner, V64 a.til, .int .u8 (a.pool.a.fam : Nat), V64 a.pool.a.hi, V64 a.pool.a.lo, .int .i64 a.pool.bits, .bool a.has, .bool a.held, .bool a.live, V64 a.clock, .slice r a.rows.length rc, .slice v a.events.length vc, .slice p a.pools.length pc] #[.slice none 0 0] 28 36 87
  obtain ⟨L0, hL0⟩ : ∃ L : List UInt8, L = [] := ⟨_, rfl⟩
  have hl0 : L0.length ≤ 0 := by rw [hL0]; exact Nat.le_refl _
  obtain ⟨L1, hL1⟩ : ∃ L, L = L0 ++ [P.byI 0] := ⟨_, rfl⟩
  have hl1 : L1.length ≤ 1 := by rw [hL1, List.length_append]; simp only [List.length_singleton]; omega
  have H1 := Lib.hid (fun wx (h : Wr wx (w.heap.size + 1 + 1) L0) => show Calls Tryd.prog 36 #[.pointer (some ⟨w.heap.size + 1 + 1, 0, none⟩), .int .i64 0] wx fun e w' => e = .returned (.tuple #[]) ∧ Wr w' (w.heap.size + 1 + 1) L1 ∧ Below (w.heap.size + 1 + 1) wx w' ∧ KeptW (w.heap.size + 1 + 1) wx w' from by rw [hL1]; exact wbyte_any _ L0 0 wx (by omega) h)
  obtain ⟨L2, hL2⟩ : ∃ L, L = L1 ++ P.headB x.op x.client x.number := ⟨_, rfl⟩
  have hl2 : L2.length ≤ 11 := by rw [hL2, List.length_append]; have := P.headB_len x.op x.client x.number; omega
  have H2 := Lib.hid (fun wx (h : Wr wx (w.heap.size + 1 + 1) L1) => show Calls Tryd.prog 31 #[.pointer (some ⟨w.heap.size + 1 + 1, 0, none⟩), caV x] wx fun e w' => e = .returned (.tuple #[]) ∧ Wr w' (w.heap.size + 1 + 1) L2 ∧ Below (w.heap.size + 1 + 1) wx w' ∧ KeptW (w.heap.size + 1 + 1) wx w' from by rw [hL2]; exact whead_any _ L1 x wx (by omega) h ht.1 ht.2.1 ht.2.2.1)
  obtain ⟨L3, hL3⟩ : ∃ L, L = L2 ++ P.lkB a := ⟨_, rfl⟩
  have hl3 : L3.length ≤ 20100 := by rw [hL3, List.length_append]; have := P.lkB_le ho; omega
  have H3 := Lib.hid (fun wx (h : Wr wx (w.heap.size + 1 + 1) L2) => show Calls Tryd.prog 64 #[.pointer (some ⟨w.heap.size + 1 + 1, 0, none⟩), anV a r rc v vc p pc] wx fun e w' => e = .returned (.tuple #[]) ∧ Wr w' (w.heap.size + 1 + 1) L3 ∧ Below (w.heap.size + 1 + 1) wx w' ∧ KeptW (w.heap.size + 1 + 1) wx w' from by rw [hL3]; exact wlook_any _ L2 a r rc v vc p pc wx (by omega) h ho hta)
  have Hres := Lib.hid (show L3 = P.tellB x.op x.client x.number a 0 by rw [hL3, hL2, hL1, hL0]; unfold P.tellB P.tailB; simp only [hop]; simp)
  clear hL3 hL2 hL1
  have t5 : ((x.op : Int) == 5) = false := beq_eq_false_iff_ne.2 (by omega)
  have t6 : ((x.op : Int) == 6) = false := beq_eq_false_iff_ne.2 (by omega)
  have t7 : ((x.op : Int) == 7) = false := beq_eq_false_iff_ne.2 (by omega)
  have t10 : ((x.op : Int) == 10) = true := beq_iff_eq.2 (by omega)
  clear hop
  go_enter Tryd.func21, Tryd.ntmps21
  go_upto_region 2 with fail
  generalize hW : ((w.alloc (.cells #[.int .u8 (x.op : Nat), .int .u8 (x.client : Nat), V64 x.number, .int .u8 (x.p.a.fam : Nat), V64 x.p.a.hi, V64 x.p.a.lo, .int .i64 x.p.bits, .int .u8 (x.a.fam : Nat), V64 x.a.hi, V64 x.a.lo, S x.owner, S x.to, V64 x.d, V64 x.fr, .int .i64 x.n] 28)).alloc (.cells #[.int .u8 (a.a.fam : Nat), V64 a.a.hi, V64 a.a.lo, S a.owner, V64 a.til, .int .u8 (a.pool.a.fam : Nat), V64 a.pool.a.hi, V64 a.pool.a.lo, .int .i64 a.pool.bits, .bool a.has, .bool a.held, .bool a.live, V64 a.clock, .slice r a.rows.length rc, .slice v a.events.length vc, .slice p a.pools.length pc] 36)).alloc (.cells #[.slice none 0 0] 87) = w1 at *
  clear hW
  have hW0 : Wr w1 (w.heap.size + 1 + 1) L0 := by rw [hL0]; exact ⟨none, 0, hwb, own_nil _ _⟩
  clear hwb
  go_wp2_with (first
    | (go_at_call 36; (with_reducible refine (H1.out _ hW0).mono ?_); rintro e w2 ⟨rfl, hW1, hb1, -⟩; have hc1 := hc.below hb1 (by omega); have ha1 := ha.below hb1 (by omega); have hA1 := hA.trans (hb1.mono (by omega)); obtain ⟨⟨c0, c1, c2, c3, c4, c5, c6, c7, c8, c9, c10, c11, c12, c13, c14⟩, -⟩ := hc1.cells15; skip)
    | (go_at_call 31; (with_reducible refine (H2.out _ hW1).mono ?_); rintro e w3 ⟨rfl, hW2, hb2, -⟩; have hc2 := hc1.below hb2 (by omega); have ha2 := ha1.below hb2 (by omega); have hA2 := hA1.trans (hb2.mono (by omega)); obtain ⟨⟨c0, -, -, -, -, -, -, -, -, -, -, -, -, -, -⟩, -⟩ := hc2.cells15; skip)
    | (refine wpList_ldB (by rfl) _ _ (by rfl) ha2 (by rfl) structAns 16 infoAns (by rfl) ?_)
    | (go_at_call 64; (with_reducible refine (H3.out _ hW2).mono ?_); rintro e w4 ⟨rfl, hW3, hb3, -⟩; have hc3 := hc2.below hb3 (by omega); have ha3 := ha2.below hb3 (by omega); have hA3 := hA2.trans (hb3.mono (by omega)); obtain ⟨sa, sc, hwx, hwo⟩ := hW3; have q0 := hwx.cell 0; skip)
    | (refine wpList_conv_own (by rfl) hwo ?_))
  go_ret
  exact ⟨by rw [Hres.out]; rfl, hA3⟩
set_option maxRecDepth 100000 in
theorem bad_any (w : World) : Calls Tryd.prog 29 #[] w fun e w' => e = .returned (S [28]) ∧ Below w.heap.size w w' := by
  have hown : Own (w.alloc (.cells #[.int .u8 28] 5)) w.heap.size (.slice (some ⟨w.heap.size, 0, none⟩) 1 1) [28] := own_rowsQ.2 (OwnR.lit byQ_len [28] _ rfl (by simp) (Nat.le_refl _) _ _ _ rfl rfl rfl)
  go_enter Tryd.func29, Tryd.ntmps29
  go_wp2_with (refine wpList_conv_own (by rfl) hown ?_)
  go_ret
  exact ⟨rfl, (Below.refl _ _).alloc (Nat.le_refl _) _⟩
end Go.Proofs.YtcobfoiajdbahaaDoor

namespace Go.Proofs.YtcobfoiajdbahaaDoor
open Go.RowKit
set_option linter.unusedVariables false
set_option linter.unusedSimpArgs false
/-- An answer that statements go through, in memory. -/
structure AnsAt (w : World) (a : P.An) (r v p : Option Addr) : Prop where
  rows : RowsAt 5 rwC w r a.rows
  events : RowsAt 4 evC w v a.events
  pools : RowsAt 4 pxC w p a.pools
theorem AnsAt.up {w w' : World} {a : P.An} {r v p : Option Addr} (h : AnsAt w a r v p) (hb : Below w.heap.size w w') : AnsAt w' a r v p := ⟨h.1.up hb, h.2.up hb, h.3.up hb⟩
theorem OwnAns.at {w : World} {B : Nat} {a : P.An} {r v p : Option Addr} {rc vc pc : Nat} (h : OwnAns w B a r rc v vc p pc) : AnsAt w a r v p := ⟨h.1.at rwC_len, h.2.at evC_len, h.3.at pxC_len⟩
structure SmallA (a : P.An) : Prop where
  owner : a.owner.length ≤ 2000
  rows : a.rows.length ≤ 40
  events : a.events.length ≤ 40
  pools : a.pools.length ≤ 40
  ros : ∀ y ∈ a.rows, y.owner.length ≤ 2000
  eos : ∀ y ∈ a.events, y.owner.length ≤ 2000
theorem RowsAt.first {α : Type} {k : Nat} {cs : α → List Value} {w : World} {a : Option Addr} {l : List α} (h : RowsAt k cs w a l) : l.length = 0 ∨ ∃ b o, a = some ⟨b, o, none⟩ := by
  rcases Nat.eq_zero_or_pos l.length with h0 | h0
  · exact .inl h0
  · obtain ⟨b, o, hb, _⟩ := h 0 h0
    exact .inr ⟨b, o, hb⟩
theorem tell_any (x : P.Ca) (a : P.An) (r : Option Addr) (rc : Nat) (v : Option Addr) (vc : Nat) (p : Option Addr) (pc : Nat) (e : Int) (ht : P.tyC x) (hta : P.tyAn a) (hs : SmallA a) (w : World) (hat : AnsAt w a r v p) :
    Calls Tryd.prog 21 #[caV x, anV a r rc v vc p pc, .int .i64 e] w fun e' w' => e' = .returned (S (P.tellB x.op x.client x.number a e)) ∧ Below w.heap.size w w' := by
  by_cases he : e = 0
  · subst he
    have ho : a.owner.length ≤ 20000 := Nat.le_trans hs.owner (by omega)
    by_cases h1 : 5 ≤ x.op ∧ x.op ≤ 7
    · exact tell_lease x a r rc v vc p pc ht hta ho h1 w
    by_cases h2 : x.op = 10
    · exact tell_look x a r rc v vc p pc ht hta ho h2 w
    by_cases h3 : x.op = 11
    · rcases hat.rows.first with h0 | ⟨b, o, hb⟩
      · exact tell_rows0 x a r rc v vc p pc ht hta hs.rows hs.ros h3 w h0
      · exact tell_rows x a r rc v vc p pc ht hta hs.rows hs.ros h3 w b o hb hat.rows
    by_cases h4 : x.op = 12
    · rcases hat.events.first with h0 | ⟨b, o, hb⟩
      · exact tell_events0 x a r rc v vc p pc ht hta hs.events hs.eos h4 w h0
      · exact tell_events x a r rc v vc p pc ht hta hs.events hs.eos h4 w b o hb hat.events
    by_cases h5 : x.op = 13 ∨ x.op = 14
    · rcases hat.pools.first with h0 | ⟨b, o, hb⟩
      · exact tell_pools0 x a r rc v vc p pc ht hta hs.pools h5 w h0
      · exact tell_pools x a r rc v vc p pc ht hta hs.pools h5 w b o hb hat.pools
    by_cases h6 : x.op = 15
    · exact tell_clock x a r rc v vc p pc ht hta h6 w
    · exact tell_other x a r rc v vc p pc ht hta ⟨h1, by omega⟩ w
  · exact tell_err x a r rc v vc p pc e ht he w
end Go.Proofs.YtcobfoiajdbahaaDoor

namespace Go.Proofs.YtcobfoiajdbahaaDoor
open Go.RowKit
set_option linter.unusedVariables false
set_option linter.unusedSimpArgs false
attribute [local go_sem high] eq_Call guardCall P.eqI_self
theorem P.nameOk_len {s : List UInt8} (h : P.nameOk s = true) : s.length ≤ 32 := by unfold P.nameOk at h; simp only [decide_eq_true_eq] at h; exact h.2
theorem P.told_small {op : Nat} {a : P.An} (hm : P.mayA op a = true) (ht : P.toldA op a = a) : SmallA a := by
  obtain ⟨l1, l2, l3⟩ := P.told_lists hm ht
  by_cases h57 : 5 ≤ op ∧ op ≤ 7
  · unfold P.mayA at hm
    rw [if_pos h57, Bool.and_eq_true] at hm
    have ho := P.nameOk_len hm.2
    unfold P.toldA at ht
    rw [if_pos h57] at ht
    refine ⟨by omega, by omega, by omega, by omega, fun y hy => ?_, fun y hy => ?_⟩
    · rw [← ht] at hy; cases hy
    · rw [← ht] at hy; cases hy
  by_cases h10 : op = 10
  · unfold P.mayA at hm
    rw [if_neg h57, if_pos h10] at hm
    unfold P.toldA at ht
    rw [if_neg h57, if_pos h10] at ht
    refine ⟨?_, by omega, by omega, by omega, fun y hy => ?_, fun y hy => ?_⟩
    · cases hl : a.live with
      | true =>
        rw [hl] at hm
        simp only [Bool.and_eq_true, Bool.not_true, Bool.false_or] at hm
        have := P.nameOk_len hm.2
        omega
      | false =>
        have := congrArg P.An.owner ht
        simp only [hl] at this
        rw [← this]
        simp
    · rw [← ht] at hy; cases hy
    · rw [← ht] at hy; cases hy
  by_cases h11 : op = 11
  · unfold P.mayA at hm
    rw [if_neg h57, if_neg h10, if_pos h11] at hm
    simp only [Bool.and_eq_true, List.all_eq_true] at hm
    unfold P.toldA at ht
    rw [if_neg h57, if_neg h10, if_pos h11] at ht
    have ho := congrArg P.An.owner ht
    simp only [P.noAn] at ho
    refine ⟨by rw [← ho]; simp, by omega, by omega, by omega, fun y hy => ?_, fun y hy => ?_⟩
    · have := hm.1 y hy
      unfold P.rwOk at this
      rw [Bool.and_eq_true] at this
      have := P.nameOk_len this.2
      omega
    · rw [← ht] at hy; cases hy
  by_cases h12 : op = 12
  · unfold P.mayA at hm
    rw [if_neg h57, if_neg h10, if_neg h11, if_pos h12] at hm
    simp only [Bool.and_eq_true, List.all_eq_true] at hm
    unfold P.toldA at ht
    rw [if_neg h57, if_neg h10, if_neg h11, if_pos h12] at ht
    have ho := congrArg P.An.owner ht
    simp only [P.noAn] at ho
    refine ⟨by rw [← ho]; simp, by omega, by omega, by omega, fun y hy => ?_, fun y hy => ?_⟩
    · rw [← ht] at hy; cases hy
    · have := hm.1 y hy
      unfold P.evOk at this
      rw [Bool.and_eq_true] at this
      have := P.nameOk_len this.1
      omega
  · have hz : a.owner = [] ∧ a.rows = [] ∧ a.events = [] := by
      unfold P.toldA at ht
      rw [if_neg h57, if_neg h10, if_neg h11, if_neg h12] at ht
      by_cases h13 : op = 13 ∨ op = 14
      · rw [if_pos h13] at ht; rw [← ht]; exact ⟨rfl, rfl, rfl⟩
      · rw [if_neg h13] at ht
        by_cases h15 : op = 15
        · rw [if_pos h15] at ht; rw [← ht]; exact ⟨rfl, rfl, rfl⟩
        · rw [if_neg h15] at ht; rw [← ht]; exact ⟨rfl, rfl, rfl⟩
    refine ⟨by rw [hz.1]; simp, by omega, by omega, by omega, fun y hy => ?_, fun y hy => ?_⟩
    · rw [hz.2.1] at hy; cases hy
    · rw [hz.2.2] at hy; cases hy
theorem P.Heard.small {s : List UInt8} {op cl nu e : Nat} {a : P.An} (h : P.Heard s op cl nu a e) : SmallA a := by
  by_cases he : e = 0
  · exact P.told_small (h.may he) (h.told he)
  · rw [h.no he]
    exact ⟨by simp [P.noAn], by simp [P.noAn], by simp [P.noAn], by simp [P.noAn], fun y hy => (by cases hy), fun y hy => (by cases hy)⟩
theorem hear_yes2 {s : List UInt8} (hs : s.length ≤ 1000000) {op cl nu e : Nat} {a : P.An} (h : P.Heard s op cl nu a e) (ho : P.hearOk s = true) (w : World) :
    Calls Tryd.prog 23 #[S s] w fun e' w' => ∃ r rc v vc p pc, e' = .returned (.tuple #[.agg #[.int .u8 (op : Nat), .int .u8 (cl : Nat), V64 nu, .int .u8 0, .int .u64 0, .int .u64 0, .int .i64 0, .int .u8 0, .int .u64 0, .int .u64 0, .string ⟨#[]⟩, .string ⟨#[]⟩, .int .u64 0, .int .u64 0, .int .i64 0], .agg #[.int .u8 (a.a.fam : Nat), V64 a.a.hi, V64 a.a.lo, S a.owner, V64 a.til, .int .u8 (a.pool.a.fam : Nat), V64 a.pool.a.hi, V64 a.pool.a.lo, .int .i64 a.pool.bits, .bool a.has, .bool a.held, .bool a.live, V64 a.clock, .slice r a.rows.length rc, .slice v a.events.length vc, .slice p a.pools.length pc], .int .i64 (e : Nat), .bool true]) ∧ OwnAns w' w.heap.size a r rc v vc p pc ∧ Below w.heap.size w w' :=
  (hear_any s hs w).mono fun e' w' h' => by
    obtain ⟨r, rc, v, vc, p, pc, h1, h3, h2⟩ := h'
    rw [h.c, h.a', h.e', ho] at h1
    rw [h.a'] at h3
    exact ⟨r, rc, v, vc, p, pc, h1, h3, h2⟩
theorem tell_heard {s : List UInt8} {op cl nu e : Nat} {a : P.An} (h : P.Heard s op cl nu a e) (r : Option Addr) (rc : Nat) (v : Option Addr) (vc : Nat) (p : Option Addr) (pc : Nat) (w : World) (hat : AnsAt w a r v p) :
    Calls Tryd.prog 21 #[.agg #[.int .u8 (op : Nat), .int .u8 (cl : Nat), V64 nu, .int .u8 0, .int .u64 0, .int .u64 0, .int .i64 0, .int .u8 0, .int .u64 0, .int .u64 0, .string ⟨#[]⟩, .string ⟨#[]⟩, .int .u64 0, .int .u64 0, .int .i64 0], .agg #[.int .u8 (a.a.fam : Nat), V64 a.a.hi, V64 a.a.lo, S a.owner, V64 a.til, .int .u8 (a.pool.a.fam : Nat), V64 a.pool.a.hi, V64 a.pool.a.lo, .int .i64 a.pool.bits, .bool a.has, .bool a.held, .bool a.live, V64 a.clock, .slice r a.rows.length rc, .slice v a.events.length vc, .slice p a.pools.length pc], .int .i64 (e : Nat)] w fun e' w' => e' = .returned (S s) ∧ Below w.heap.size w w' := by
  have ht := tell_any (P.headC (op, cl, nu)) a r rc v vc p pc (e : Int) (P.headC_ty ⟨h.op', h.cl', h.nu'⟩).1 h.ty h.small w hat
  have hs : P.tellB (P.headC (op, cl, nu)).op (P.headC (op, cl, nu)).client (P.headC (op, cl, nu)).number a (e : Int) = s := h.is.symm
  rw [hs] at ht
  exact ht
theorem read_no2 {s : List UInt8} (hs : s.length ≤ 1000000) (ho : P.readOk s = false) (w : World) (hu : UsesOk w) : Calls Tryd.prog 17 #[S s] w fun e' w' => e' = .returned (.tuple #[.agg #[.int .u8 0, .int .u8 0, .int .u64 0, .int .u8 0, .int .u64 0, .int .u64 0, .int .i64 0, .int .u8 0, .int .u64 0, .int .u64 0, .string ⟨#[]⟩, .string ⟨#[]⟩, .int .u64 0, .int .u64 0, .int .i64 0], .bool false]) ∧ Below w.heap.size w w' := by
  have h := read_any s hs w hu
  rw [ho, P.readC_no ho] at h
  exact h
end Go.Proofs.YtcobfoiajdbahaaDoor

namespace Go.Proofs.YtcobfoiajdbahaaDoor
open Go.RowKit
set_option linter.unusedVariables false
set_option linter.unusedSimpArgs false
attribute [local go_sem high] eq_Call guardCall P.eqI_self eq_Ad guardAd
/-- The code behind so many parts of a row. -/
def afterSeqO : Nat → Code → Code
  | 0, c => c
  | n + 1, .seq _ b => afterSeqO n b
  | _, c => c
noncomputable def restO5 : Code := afterSeqO 3 ((Tryd.f10.body).getD .skip)
set_option maxRecDepth 1000000 in
set_option maxHeartbeats 16000000 in
theorem only_00 (s t : List UInt8) (w : World) (u2 u3 u4 u5 u6 u7 u8 u9 u10 u11 u12 u13 u14 u15 u16 u17 u18 u19 u20 u21 u22 u23 u24 u25 u26 u27 u28 u29 u30 u31 u32 u33 u34 u35 u36 u37 u38 u39 u40 u41 u42 u43 u44 u45 u46 u47 u48 u49 u50 u51 u52 u53 u54 u55 u56 u57 u58 u59 u60 u61 u62 u63 u64 u65 u66 u67 u68 u69 u70 u71 u72 u73 u74 u75 u76 u77 u78 u79 u80 u81 u82 u83 u84 u85 u86 u87 u88 u89 u90 u91 u92 u93 u94 u95 u96 u97 u98 u99 u100 u101 u102 u103 u104 u105 u106 u107 u108 u109 u110 : Value) (hs : s.length ≤ 2000) (ht : t.length ≤ 2000) (hu : UsesOk w) (hok : P.readOk s = false) (his : P.hearOk t = false) :
    Code.wp Tryd.prog restO5 (bodyPost Tryd.prog Tryd.f10 fun e' w' => e' = .returned (.bool true) ∧ Below w.heap.size w w') ⟨#[S s, S t, u2, u3, u4, u5, u6, u7, u8, u9, u10, u11, u12, u13, u14, u15, u16, u17, u18, u19, u20, u21, u22, u23, u24, u25, u26, u27, u28, u29, u30, u31, u32, u33, u34, u35, u36, u37, u38, u39, u40, u41, u42, u43, u44, u45, u46, u47, u48, u49, u50, u51, u52, u53, u54, u55, u56, u57, u58, u59, u60, u61, u62, u63, u64, u65, u66, u67, u68, u69, u70, u71, u72, u73, u74, u75, u76, u77, u78, u79, u80, u81, u82, u83, u84, u85, u86, u87, u88, u89, u90, u91, u92, u93, u94, u95, u96, u97, u98, u99, u100, u101, u102, u103, u104, u105, u106, u107, u108, u109, u110], []⟩ w := by
  conv => arg 2; whnf
  have hc0 := Below.refl w.heap.size w
  have HRd := Lib.hid (fun wx (hu : UsesOk wx) => read_no2 (s := s) (by omega) hok wx hu)
  clear hok
  have HH := Lib.hid (fun wx => hear_not (s := t) (by omega) his wx)
  clear his
  go_wp2_with (first
    | (go_at_call 17; (with_reducible refine (HRd.out _ (hu.up hc0)).mono ?_); rintro e' w1 ⟨rfl, hb1⟩; have hc1 := Chain.up hc0 hb1; have y1 := Bx.fresh w1 28 #[.int .u8 0, .int .u8 0, .int .u64 0, .int .u8 0, .int .u64 0, .int .u64 0, .int .i64 0, .int .u8 0, .int .u64 0, .int .u64 0, .string ⟨#[]⟩, .string ⟨#[]⟩, .int .u64 0, .int .u64 0, .int .i64 0]; have hB1 := (Below.refl w1.heap.size w1).alloc (Nat.le_refl _) (.cells #[.int .u8 0, .int .u8 0, .int .u64 0, .int .u8 0, .int .u64 0, .int .u64 0, .int .i64 0, .int .u8 0, .int .u64 0, .int .u64 0, .string ⟨#[]⟩, .string ⟨#[]⟩, .int .u64 0, .int .u64 0, .int .i64 0] 28))
    | (refine wpList_stB (by rfl) _ _ _ (by rfl) y1 _ _ (by rfl) (by rfl) 15 15 (by rfl) (by rfl) (by decide) infoCall (by rfl) (by rfl) ?_; intro w2 hz' hsw2; have r2 : Bx w2 w1.heap.size 28 #[.int .u8 0, .int .u8 0, .int .u64 0, .int .u8 0, .int .u64 0, .int .u64 0, .int .i64 0, .int .u8 0, .int .u64 0, .int .u64 0, .string ⟨#[]⟩, .string ⟨#[]⟩, .int .u64 0, .int .u64 0, .int .i64 0] := hz'; clear hz'; have hc2 := Chain.up hc1 (hB1.trans (hsw2.below (Nat.le_refl _) hB1.size)); obtain ⟨⟨q0, q1, q2, q3, q4, q5, q6, q7, q8, q9, q10, q11, q12, q13, q14⟩, -⟩ := r2.cells15; skip)
    | (go_at_call 23; (with_reducible refine (HH.out _).mono ?_); rintro e' x6 ⟨r6, r6c, v6, v6c, p6, p6c, rfl, hb6⟩; have hc6 := Chain.up hc2 hb6; obtain ⟨y6, z6, hB6⟩ := two_bx x6 #[.int .u8 0, .int .u8 0, .int .u64 0, .int .u8 0, .int .u64 0, .int .u64 0, .int .i64 0, .int .u8 0, .int .u64 0, .int .u64 0, .string ⟨#[]⟩, .string ⟨#[]⟩, .int .u64 0, .int .u64 0, .int .i64 0] #[.int .u8 0, .int .u64 0, .int .u64 0, .string ⟨#[]⟩, .int .u64 0, .int .u8 0, .int .u64 0, .int .u64 0, .int .i64 0, .bool false, .bool false, .bool false, .int .u64 0, .slice none 0 0, .slice none 0 0, .slice none 0 0] 28 36)
    | (refine wpList_stB (by rfl) _ _ _ (by rfl) y6 _ _ (by rfl) (by rfl) 15 15 (by rfl) (by rfl) (by decide) infoCall (by rfl) (by rfl) ?_; intro u6 hz' hsu6; have yy6 : Bx u6 x6.heap.size 28 #[.int .u8 0, .int .u8 0, .int .u64 0, .int .u8 0, .int .u64 0, .int .u64 0, .int .i64 0, .int .u8 0, .int .u64 0, .int .u64 0, .string ⟨#[]⟩, .string ⟨#[]⟩, .int .u64 0, .int .u64 0, .int .i64 0] := hz'; clear hz'; have zz6 := z6.but hsu6 (by omega); skip)
    | (refine wpList_stB (by rfl) _ _ _ (by rfl) zz6 _ _ (by rfl) (by rfl) 16 16 (by rfl) (by rfl) (by decide) infoAns (by rfl) (by rfl) ?_; intro t6 hz' hst6; have zf6 : Bx t6 (x6.heap.size + 1) 36 #[.int .u8 0, .int .u64 0, .int .u64 0, .string ⟨#[]⟩, .int .u64 0, .int .u8 0, .int .u64 0, .int .u64 0, .int .i64 0, .bool false, .bool false, .bool false, .int .u64 0, .slice r6 0 r6c, .slice v6 0 v6c, .slice p6 0 p6c] := hz'; clear hz'; have yf6 := yy6.but hst6 (by omega); have hd6 := Chain.up hc6 ((hB6.trans (hsu6.below (Nat.le_refl _) hB6.size)).trans (hst6.below (Nat.le_succ _) (by have := hB6.size; have := hsu6.size; omega))); obtain ⟨⟨m0, m1, m2, m3, m4, m5, m6, m7, m8, m9, m10, m11, m12, m13, m14, m15⟩, -⟩ := zf6.cells16; skip)
    | (refine wpList_ldB (by rfl) _ _ (by rfl) yf6 (by rfl) structCall 15 infoCall (by rfl) ?_)
    | (go_at_call 12; (with_reducible refine (awake_any _ (hu.up hd6)).mono ?_); rintro e' w9 ⟨rfl, hb9⟩; have hc9 := Chain.up hd6 hb9))
  go_ret
  exact ⟨rfl, hc9⟩
set_option maxRecDepth 1000000 in
set_option maxHeartbeats 16000000 in
theorem only_01 (s t : List UInt8) (w : World) (u2 u3 u4 u5 u6 u7 u8 u9 u10 u11 u12 u13 u14 u15 u16 u17 u18 u19 u20 u21 u22 u23 u24 u25 u26 u27 u28 u29 u30 u31 u32 u33 u34 u35 u36 u37 u38 u39 u40 u41 u42 u43 u44 u45 u46 u47 u48 u49 u50 u51 u52 u53 u54 u55 u56 u57 u58 u59 u60 u61 u62 u63 u64 u65 u66 u67 u68 u69 u70 u71 u72 u73 u74 u75 u76 u77 u78 u79 u80 u81 u82 u83 u84 u85 u86 u87 u88 u89 u90 u91 u92 u93 u94 u95 u96 u97 u98 u99 u100 u101 u102 u103 u104 u105 u106 u107 u108 u109 u110 : Value) (hs : s.length ≤ 2000) (ht : t.length ≤ 2000) (hu : UsesOk w) (hok : P.readOk s = false) (his : P.hearOk t = true) :
    Code.wp Tryd.prog restO5 (bodyPost Tryd.prog Tryd.f10 fun e' w' => e' = .returned (.bool true) ∧ Below w.heap.size w w') ⟨#[S s, S t, u2, u3, u4, u5, u6, u7, u8, u9, u10, u11, u12, u13, u14, u15, u16, u17, u18, u19, u20, u21, u22, u23, u24, u25, u26, u27, u28, u29, u30, u31, u32, u33, u34, u35, u36, u37, u38, u39, u40, u41, u42, u43, u44, u45, u46, u47, u48, u49, u50, u51, u52, u53, u54, u55, u56, u57, u58, u59, u60, u61, u62, u63, u64, u65, u66, u67, u68, u69, u70, u71, u72, u73, u74, u75, u76, u77, u78, u79, u80, u81, u82, u83, u84, u85, u86, u87, u88, u89, u90, u91, u92, u93, u94, u95, u96, u97, u98, u99, u100, u101, u102, u103, u104, u105, u106, u107, u108, u109, u110], []⟩ w := by
  conv => arg 2; whnf
  have hc0 := Below.refl w.heap.size w
  have HRd := Lib.hid (fun wx (hu : UsesOk wx) => read_no2 (s := s) (by omega) hok wx hu)
  clear hok
  obtain ⟨op, cl, nu, e, a, hh⟩ : ∃ op cl nu e a, P.Heard t op cl nu a e := by obtain ⟨op, cl, nu, a, e, h⟩ := P.heard_of his; exact ⟨op, cl, nu, e, a, h⟩
  have HH := Lib.hid (fun wx => hear_yes2 (by omega) hh his wx)
  have HT := Lib.hid (fun r rc v vc p pc wx (hat : AnsAt wx a r v p) => tell_heard hh r rc v vc p pc wx hat)
  have hlt := hh.len.1
  have hne : ¬ t = [28] := by intro h; rw [h] at hlt; simp at hlt
  have hne2 : ¬ [28] = t := fun h => hne h.symm
  have hne3 : (t == [28]) = false := beq_eq_false_iff_ne.2 hne
  clear hh his hlt
  go_wp2_with (first
    | (go_at_call 17; (with_reducible refine (HRd.out _ (hu.up hc0)).mono ?_); rintro e' w1 ⟨rfl, hb1⟩; have hc1 := Chain.up hc0 hb1; have y1 := Bx.fresh w1 28 #[.int .u8 0, .int .u8 0, .int .u64 0, .int .u8 0, .int .u64 0, .int .u64 0, .int .i64 0, .int .u8 0, .int .u64 0, .int .u64 0, .string ⟨#[]⟩, .string ⟨#[]⟩, .int .u64 0, .int .u64 0, .int .i64 0]; have hB1 := (Below.refl w1.heap.size w1).alloc (Nat.le_refl _) (.cells #[.int .u8 0, .int .u8 0, .int .u64 0, .int .u8 0, .int .u64 0, .int .u64 0, .int .i64 0, .int .u8 0, .int .u64 0, .int .u64 0, .string ⟨#[]⟩, .string ⟨#[]⟩, .int .u64 0, .int .u64 0, .int .i64 0] 28))
    | (refine wpList_stB (by rfl) _ _ _ (by rfl) y1 _ _ (by rfl) (by rfl) 15 15 (by rfl) (by rfl) (by decide) infoCall (by rfl) (by rfl) ?_; intro w2 hz' hsw2; have r2 : Bx w2 w1.heap.size 28 #[.int .u8 0, .int .u8 0, .int .u64 0, .int .u8 0, .int .u64 0, .int .u64 0, .int .i64 0, .int .u8 0, .int .u64 0, .int .u64 0, .string ⟨#[]⟩, .string ⟨#[]⟩, .int .u64 0, .int .u64 0, .int .i64 0] := hz'; clear hz'; have hc2 := Chain.up hc1 (hB1.trans (hsw2.below (Nat.le_refl _) hB1.size)); obtain ⟨⟨q0, q1, q2, q3, q4, q5, q6, q7, q8, q9, q10, q11, q12, q13, q14⟩, -⟩ := r2.cells15; skip)
    | (go_at_call 23; (with_reducible refine (HH.out _).mono ?_); rintro e' x6 ⟨r, rc, v, vc, p, pc, rfl, hown6, hb6⟩; have hc6 := Chain.up hc2 hb6; obtain ⟨y6, z6, hB6⟩ := two_bx x6 #[.int .u8 0, .int .u8 0, .int .u64 0, .int .u8 0, .int .u64 0, .int .u64 0, .int .i64 0, .int .u8 0, .int .u64 0, .int .u64 0, .string ⟨#[]⟩, .string ⟨#[]⟩, .int .u64 0, .int .u64 0, .int .i64 0] #[.int .u8 0, .int .u64 0, .int .u64 0, .string ⟨#[]⟩, .int .u64 0, .int .u8 0, .int .u64 0, .int .u64 0, .int .i64 0, .bool false, .bool false, .bool false, .int .u64 0, .slice none 0 0, .slice none 0 0, .slice none 0 0] 28 36)
    | (refine wpList_stB (by rfl) _ _ _ (by rfl) y6 _ _ (by rfl) (by rfl) 15 15 (by rfl) (by rfl) (by decide) infoCall (by rfl) (by rfl) ?_; intro u6 hz' hsu6; have yy6 : Bx u6 x6.heap.size 28 #[.int .u8 (op : Nat), .int .u8 (cl : Nat), V64 nu, .int .u8 0, .int .u64 0, .int .u64 0, .int .i64 0, .int .u8 0, .int .u64 0, .int .u64 0, .string ⟨#[]⟩, .string ⟨#[]⟩, .int .u64 0, .int .u64 0, .int .i64 0] := hz'; clear hz'; have zz6 := z6.but hsu6 (by omega); skip)
    | (refine wpList_stB (by rfl) _ _ _ (by rfl) zz6 _ _ (by rfl) (by rfl) 16 16 (by rfl) (by rfl) (by decide) infoAns (by rfl) (by rfl) ?_; intro t6 hz' hst6; have zf6 : Bx t6 (x6.heap.size + 1) 36 #[.int .u8 (a.a.fam : Nat), V64 a.a.hi, V64 a.a.lo, S a.owner, V64 a.til, .int .u8 (a.pool.a.fam : Nat), V64 a.pool.a.hi, V64 a.pool.a.lo, .int .i64 a.pool.bits, .bool a.has, .bool a.held, .bool a.live, V64 a.clock, .slice r a.rows.length rc, .slice v a.events.length vc, .slice p a.pools.length pc] := hz'; clear hz'; have yf6 := yy6.but hst6 (by omega); have hd6 := Chain.up hc6 ((hB6.trans (hsu6.below (Nat.le_refl _) hB6.size)).trans (hst6.below (Nat.le_succ _) (by have := hB6.size; have := hsu6.size; omega))); have hown7 := ((hown6.up hB6).but y6 ⟨by decide, by decide, by decide⟩ hsu6).but zz6 ⟨by decide, by decide, by decide⟩ hst6; skip)
    | (refine wpList_ldB (by rfl) _ _ (by rfl) yf6 (by rfl) structCall 15 infoCall (by rfl) ?_)
    | (refine wpList_ldB (by rfl) _ _ (by rfl) zf6 (by rfl) structAns 16 infoAns (by rfl) ?_)
    | (go_at_call 21; (with_reducible refine (HT.out r rc v vc p pc _ hown7.at).mono ?_); rintro e' w8 ⟨rfl, hb8⟩; have hc8 := Chain.up hd6 hb8)
    | (go_at_call 29; (with_reducible refine (bad_any _).mono ?_); rintro e' w10 ⟨rfl, hb10⟩; have hc10 := Chain.up hc8 hb10)
    | (go_at_call 12; (with_reducible refine (awake_any _ (hu.up hc10)).mono ?_); rintro e' w9 ⟨rfl, hb9⟩; have hc9 := Chain.up hc10 hb9))
  go_ret
  exact ⟨rfl, hc9⟩
end Go.Proofs.YtcobfoiajdbahaaDoor

namespace Go.Proofs.YtcobfoiajdbahaaDoor
open Go.RowKit
set_option linter.unusedVariables false
set_option linter.unusedSimpArgs false
attribute [local go_sem high] eq_Call guardCall P.eqI_self eq_Ad guardAd
set_option maxRecDepth 1000000 in
set_option maxHeartbeats 16000000 in
theorem only_10 (s t : List UInt8) (w : World) (u2 u3 u4 u5 u6 u7 u8 u9 u10 u11 u12 u13 u14 u15 u16 u17 u18 u19 u20 u21 u22 u23 u24 u25 u26 u27 u28 u29 u30 u31 u32 u33 u34 u35 u36 u37 u38 u39 u40 u41 u42 u43 u44 u45 u46 u47 u48 u49 u50 u51 u52 u53 u54 u55 u56 u57 u58 u59 u60 u61 u62 u63 u64 u65 u66 u67 u68 u69 u70 u71 u72 u73 u74 u75 u76 u77 u78 u79 u80 u81 u82 u83 u84 u85 u86 u87 u88 u89 u90 u91 u92 u93 u94 u95 u96 u97 u98 u99 u100 u101 u102 u103 u104 u105 u106 u107 u108 u109 u110 : Value) (hs : s.length ≤ 2000) (ht : t.length ≤ 2000) (hu : UsesOk w) (hok : P.readOk s = true) (his : P.hearOk t = false) :
    Code.wp Tryd.prog restO5 (bodyPost Tryd.prog Tryd.f10 fun e' w' => e' = .returned (.bool true) ∧ Below w.heap.size w w') ⟨#[S s, S t, u2, u3, u4, u5, u6, u7, u8, u9, u10, u11, u12, u13, u14, u15, u16, u17, u18, u19, u20, u21, u22, u23, u24, u25, u26, u27, u28, u29, u30, u31, u32, u33, u34, u35, u36, u37, u38, u39, u40, u41, u42, u43, u44, u45, u46, u47, u48, u49, u50, u51, u52, u53, u54, u55, u56, u57, u58, u59, u60, u61, u62, u63, u64, u65, u66, u67, u68, u69, u70, u71, u72, u73, u74, u75, u76, u77, u78, u79, u80, u81, u82, u83, u84, u85, u86, u87, u88, u89, u90, u91, u92, u93, u94, u95, u96, u97, u98, u99, u100, u101, u102, u103, u104, u105, u106, u107, u108, u109, u110], []⟩ w := by
  conv => arg 2; whnf
  have hc0 := Below.refl w.heap.size w
  have hri := P.read_is hok
  have hty := P.readC_ty s
  have HRd := Lib.hid (fun wx (hu : UsesOk wx) => read_any s (by omega) wx hu)
  rw [hok] at HRd
  have HW := Lib.hid (fun wx (hu : UsesOk wx) => write_any (P.readC s) hty.1 (by have := hty.2.1; omega) (by have := hty.2.2; omega) wx hu)
  rw [hri.1, if_pos rfl, hri.2] at HW
  have HRt := Lib.hid (fun wx => right_any (P.readC s) hty.1 (by have := hty.2.1; omega) (by have := hty.2.2; omega) wx)
  rw [hri.1] at HRt
  clear hri hty hok
  generalize P.readC s = c at *
  have HH := Lib.hid (fun wx => hear_not (s := t) (by omega) his wx)
  clear his
  go_wp2_with (first
    | (go_at_call 17; (with_reducible refine (HRd.out _ (hu.up hc0)).mono ?_); rintro e' w1 ⟨rfl, hb1⟩; have hc1 := Chain.up hc0 hb1; have y1 := Bx.fresh w1 28 #[.int .u8 0, .int .u8 0, .int .u64 0, .int .u8 0, .int .u64 0, .int .u64 0, .int .i64 0, .int .u8 0, .int .u64 0, .int .u64 0, .string ⟨#[]⟩, .string ⟨#[]⟩, .int .u64 0, .int .u64 0, .int .i64 0]; have hB1 := (Below.refl w1.heap.size w1).alloc (Nat.le_refl _) (.cells #[.int .u8 0, .int .u8 0, .int .u64 0, .int .u8 0, .int .u64 0, .int .u64 0, .int .i64 0, .int .u8 0, .int .u64 0, .int .u64 0, .string ⟨#[]⟩, .string ⟨#[]⟩, .int .u64 0, .int .u64 0, .int .i64 0] 28))
    | (refine wpList_stB (by rfl) _ _ _ (by rfl) y1 _ _ (by rfl) (by rfl) 15 15 (by rfl) (by rfl) (by decide) infoCall (by rfl) (by rfl) ?_; intro w2 hz' hsw2; have r2 : Bx w2 w1.heap.size 28 #[.int .u8 (c.op : Nat), .int .u8 (c.client : Nat), V64 c.number, .int .u8 (c.p.a.fam : Nat), V64 c.p.a.hi, V64 c.p.a.lo, .int .i64 c.p.bits, .int .u8 (c.a.fam : Nat), V64 c.a.hi, V64 c.a.lo, S c.owner, S c.to, V64 c.d, V64 c.fr, .int .i64 c.n] := hz'; clear hz'; have hc2 := Chain.up hc1 (hB1.trans (hsw2.below (Nat.le_refl _) hB1.size)); have c2 := r2.cells15.1; skip)
    | (refine wpList_ldB (by rfl) _ _ (by rfl) r2 (by rfl) structCall 15 infoCall (by rfl) ?_)
    | (go_at_call 13; (with_reducible refine (HW.out _ (hu.up hc2)).mono ?_); rintro e' w3 ⟨rfl, hb3⟩; have hc3 := Chain.up hc2 hb3; have r3 := r2.up hb3; obtain ⟨⟨q0, q1, q2, q3, q4, q5, q6, q7, q8, q9, q10, q11, q12, q13, q14⟩, -⟩ := r3.cells15)
    | (go_at_call 27; (with_reducible refine (HRt.out _).mono ?_); rintro e' w4 ⟨rfl, hb4⟩; have hc4 := Chain.up hc3 hb4)
    | (go_at_call 23; (with_reducible refine (HH.out _).mono ?_); rintro e' x6 ⟨r6, r6c, v6, v6c, p6, p6c, rfl, hb6⟩; have hc6 := Chain.up hc4 hb6; obtain ⟨y6, z6, hB6⟩ := two_bx x6 #[.int .u8 0, .int .u8 0, .int .u64 0, .int .u8 0, .int .u64 0, .int .u64 0, .int .i64 0, .int .u8 0, .int .u64 0, .int .u64 0, .string ⟨#[]⟩, .string ⟨#[]⟩, .int .u64 0, .int .u64 0, .int .i64 0] #[.int .u8 0, .int .u64 0, .int .u64 0, .string ⟨#[]⟩, .int .u64 0, .int .u8 0, .int .u64 0, .int .u64 0, .int .i64 0, .bool false, .bool false, .bool false, .int .u64 0, .slice none 0 0, .slice none 0 0, .slice none 0 0] 28 36)
    | (refine wpList_stB (by rfl) _ _ _ (by rfl) y6 _ _ (by rfl) (by rfl) 15 15 (by rfl) (by rfl) (by decide) infoCall (by rfl) (by rfl) ?_; intro u6 hz' hsu6; have yy6 : Bx u6 x6.heap.size 28 #[.int .u8 0, .int .u8 0, .int .u64 0, .int .u8 0, .int .u64 0, .int .u64 0, .int .i64 0, .int .u8 0, .int .u64 0, .int .u64 0, .string ⟨#[]⟩, .string ⟨#[]⟩, .int .u64 0, .int .u64 0, .int .i64 0] := hz'; clear hz'; have zz6 := z6.but hsu6 (by omega); skip)
    | (refine wpList_stB (by rfl) _ _ _ (by rfl) zz6 _ _ (by rfl) (by rfl) 16 16 (by rfl) (by rfl) (by decide) infoAns (by rfl) (by rfl) ?_; intro t6 hz' hst6; have zf6 : Bx t6 (x6.heap.size + 1) 36 #[.int .u8 0, .int .u64 0, .int .u64 0, .string ⟨#[]⟩, .int .u64 0, .int .u8 0, .int .u64 0, .int .u64 0, .int .i64 0, .bool false, .bool false, .bool false, .int .u64 0, .slice r6 0 r6c, .slice v6 0 v6c, .slice p6 0 p6c] := hz'; clear hz'; have yf6 := yy6.but hst6 (by omega); have hd6 := Chain.up hc6 ((hB6.trans (hsu6.below (Nat.le_refl _) hB6.size)).trans (hst6.below (Nat.le_succ _) (by have := hB6.size; have := hsu6.size; omega))); obtain ⟨⟨m0, m1, m2, m3, m4, m5, m6, m7, m8, m9, m10, m11, m12, m13, m14, m15⟩, -⟩ := zf6.cells16; skip)
    | (refine wpList_ldB (by rfl) _ _ (by rfl) yf6 (by rfl) structCall 15 infoCall (by rfl) ?_)
    | (go_at_call 12; (with_reducible refine (awake_any _ (hu.up hd6)).mono ?_); rintro e' w9 ⟨rfl, hb9⟩; have hc9 := Chain.up hd6 hb9))
  go_ret
  exact ⟨rfl, hc9⟩
set_option maxRecDepth 1000000 in
set_option maxHeartbeats 16000000 in
theorem only_11 (s t : List UInt8) (w : World) (u2 u3 u4 u5 u6 u7 u8 u9 u10 u11 u12 u13 u14 u15 u16 u17 u18 u19 u20 u21 u22 u23 u24 u25 u26 u27 u28 u29 u30 u31 u32 u33 u34 u35 u36 u37 u38 u39 u40 u41 u42 u43 u44 u45 u46 u47 u48 u49 u50 u51 u52 u53 u54 u55 u56 u57 u58 u59 u60 u61 u62 u63 u64 u65 u66 u67 u68 u69 u70 u71 u72 u73 u74 u75 u76 u77 u78 u79 u80 u81 u82 u83 u84 u85 u86 u87 u88 u89 u90 u91 u92 u93 u94 u95 u96 u97 u98 u99 u100 u101 u102 u103 u104 u105 u106 u107 u108 u109 u110 : Value) (hs : s.length ≤ 2000) (ht : t.length ≤ 2000) (hu : UsesOk w) (hok : P.readOk s = true) (his : P.hearOk t = true) :
    Code.wp Tryd.prog restO5 (bodyPost Tryd.prog Tryd.f10 fun e' w' => e' = .returned (.bool true) ∧ Below w.heap.size w w') ⟨#[S s, S t, u2, u3, u4, u5, u6, u7, u8, u9, u10, u11, u12, u13, u14, u15, u16, u17, u18, u19, u20, u21, u22, u23, u24, u25, u26, u27, u28, u29, u30, u31, u32, u33, u34, u35, u36, u37, u38, u39, u40, u41, u42, u43, u44, u45, u46, u47, u48, u49, u50, u51, u52, u53, u54, u55, u56, u57, u58, u59, u60, u61, u62, u63, u64, u65, u66, u67, u68, u69, u70, u71, u72, u73, u74, u75, u76, u77, u78, u79, u80, u81, u82, u83, u84, u85, u86, u87, u88, u89, u90, u91, u92, u93, u94, u95, u96, u97, u98, u99, u100, u101, u102, u103, u104, u105, u106, u107, u108, u109, u110], []⟩ w := by
  conv => arg 2; whnf
  have hc0 := Below.refl w.heap.size w
  have hri := P.read_is hok
  have hty := P.readC_ty s
  have HRd := Lib.hid (fun wx (hu : UsesOk wx) => read_any s (by omega) wx hu)
  rw [hok] at HRd
  have HW := Lib.hid (fun wx (hu : UsesOk wx) => write_any (P.readC s) hty.1 (by have := hty.2.1; omega) (by have := hty.2.2; omega) wx hu)
  rw [hri.1, if_pos rfl, hri.2] at HW
  have HRt := Lib.hid (fun wx => right_any (P.readC s) hty.1 (by have := hty.2.1; omega) (by have := hty.2.2; omega) wx)
  rw [hri.1] at HRt
  clear hri hty hok
  generalize P.readC s = c at *
  obtain ⟨op, cl, nu, e, a, hh⟩ : ∃ op cl nu e a, P.Heard t op cl nu a e := by obtain ⟨op, cl, nu, a, e, h⟩ := P.heard_of his; exact ⟨op, cl, nu, e, a, h⟩
  have HH := Lib.hid (fun wx => hear_yes2 (by omega) hh his wx)
  have HT := Lib.hid (fun r rc v vc p pc wx (hat : AnsAt wx a r v p) => tell_heard hh r rc v vc p pc wx hat)
  have hlt := hh.len.1
  have hne : ¬ t = [28] := by intro h; rw [h] at hlt; simp at hlt
  have hne2 : ¬ [28] = t := fun h => hne h.symm
  have hne3 : (t == [28]) = false := beq_eq_false_iff_ne.2 hne
  clear hh his hlt
  go_wp2_with (first
    | (go_at_call 17; (with_reducible refine (HRd.out _ (hu.up hc0)).mono ?_); rintro e' w1 ⟨rfl, hb1⟩; have hc1 := Chain.up hc0 hb1; have y1 := Bx.fresh w1 28 #[.int .u8 0, .int .u8 0, .int .u64 0, .int .u8 0, .int .u64 0, .int .u64 0, .int .i64 0, .int .u8 0, .int .u64 0, .int .u64 0, .string ⟨#[]⟩, .string ⟨#[]⟩, .int .u64 0, .int .u64 0, .int .i64 0]; have hB1 := (Below.refl w1.heap.size w1).alloc (Nat.le_refl _) (.cells #[.int .u8 0, .int .u8 0, .int .u64 0, .int .u8 0, .int .u64 0, .int .u64 0, .int .i64 0, .int .u8 0, .int .u64 0, .int .u64 0, .string ⟨#[]⟩, .string ⟨#[]⟩, .int .u64 0, .int .u64 0, .int .i64 0] 28))
    | (refine wpList_stB (by rfl) _ _ _ (by rfl) y1 _ _ (by rfl) (by rfl) 15 15 (by rfl) (by rfl) (by decide) infoCall (by rfl) (by rfl) ?_; intro w2 hz' hsw2; have r2 : Bx w2 w1.heap.size 28 #[.int .u8 (c.op : Nat), .int .u8 (c.client : Nat), V64 c.number, .int .u8 (c.p.a.fam : Nat), V64 c.p.a.hi, V64 c.p.a.lo, .int .i64 c.p.bits, .int .u8 (c.a.fam : Nat), V64 c.a.hi, V64 c.a.lo, S c.owner, S c.to, V64 c.d, V64 c.fr, .int .i64 c.n] := hz'; clear hz'; have hc2 := Chain.up hc1 (hB1.trans (hsw2.below (Nat.le_refl _) hB1.size)); have c2 := r2.cells15.1; skip)
    | (refine wpList_ldB (by rfl) _ _ (by rfl) r2 (by rfl) structCall 15 infoCall (by rfl) ?_)
    | (go_at_call 13; (with_reducible refine (HW.out _ (hu.up hc2)).mono ?_); rintro e' w3 ⟨rfl, hb3⟩; have hc3 := Chain.up hc2 hb3; have r3 := r2.up hb3; obtain ⟨⟨q0, q1, q2, q3, q4, q5, q6, q7, q8, q9, q10, q11, q12, q13, q14⟩, -⟩ := r3.cells15)
    | (go_at_call 27; (with_reducible refine (HRt.out _).mono ?_); rintro e' w4 ⟨rfl, hb4⟩; have hc4 := Chain.up hc3 hb4)
    | (go_at_call 23; (with_reducible refine (HH.out _).mono ?_); rintro e' x6 ⟨r, rc, v, vc, p, pc, rfl, hown6, hb6⟩; have hc6 := Chain.up hc4 hb6; obtain ⟨y6, z6, hB6⟩ := two_bx x6 #[.int .u8 0, .int .u8 0, .int .u64 0, .int .u8 0, .int .u64 0, .int .u64 0, .int .i64 0, .int .u8 0, .int .u64 0, .int .u64 0, .string ⟨#[]⟩, .string ⟨#[]⟩, .int .u64 0, .int .u64 0, .int .i64 0] #[.int .u8 0, .int .u64 0, .int .u64 0, .string ⟨#[]⟩, .int .u64 0, .int .u8 0, .int .u64 0, .int .u64 0, .int .i64 0, .bool false, .bool false, .bool false, .int .u64 0, .slice none 0 0, .slice none 0 0, .slice none 0 0] 28 36)
    | (refine wpList_stB (by rfl) _ _ _ (by rfl) y6 _ _ (by rfl) (by rfl) 15 15 (by rfl) (by rfl) (by decide) infoCall (by rfl) (by rfl) ?_; intro u6 hz' hsu6; have yy6 : Bx u6 x6.heap.size 28 #[.int .u8 (op : Nat), .int .u8 (cl : Nat), V64 nu, .int .u8 0, .int .u64 0, .int .u64 0, .int .i64 0, .int .u8 0, .int .u64 0, .int .u64 0, .string ⟨#[]⟩, .string ⟨#[]⟩, .int .u64 0, .int .u64 0, .int .i64 0] := hz'; clear hz'; have zz6 := z6.but hsu6 (by omega); skip)
    | (refine wpList_stB (by rfl) _ _ _ (by rfl) zz6 _ _ (by rfl) (by rfl) 16 16 (by rfl) (by rfl) (by decide) infoAns (by rfl) (by rfl) ?_; intro t6 hz' hst6; have zf6 : Bx t6 (x6.heap.size + 1) 36 #[.int .u8 (a.a.fam : Nat), V64 a.a.hi, V64 a.a.lo, S a.owner, V64 a.til, .int .u8 (a.pool.a.fam : Nat), V64 a.pool.a.hi, V64 a.pool.a.lo, .int .i64 a.pool.bits, .bool a.has, .bool a.held, .bool a.live, V64 a.clock, .slice r a.rows.length rc, .slice v a.events.length vc, .slice p a.pools.length pc] := hz'; clear hz'; have yf6 := yy6.but hst6 (by omega); have hd6 := Chain.up hc6 ((hB6.trans (hsu6.below (Nat.le_refl _) hB6.size)).trans (hst6.below (Nat.le_succ _) (by have := hB6.size; have := hsu6.size; omega))); have hown7 := ((hown6.up hB6).but y6 ⟨by decide, by decide, by decide⟩ hsu6).but zz6 ⟨by decide, by decide, by decide⟩ hst6; skip)
    | (refine wpList_ldB (by rfl) _ _ (by rfl) yf6 (by rfl) structCall 15 infoCall (by rfl) ?_)
    | (refine wpList_ldB (by rfl) _ _ (by rfl) zf6 (by rfl) structAns 16 infoAns (by rfl) ?_)
    | (go_at_call 21; (with_reducible refine (HT.out r rc v vc p pc _ hown7.at).mono ?_); rintro e' w8 ⟨rfl, hb8⟩; have hc8 := Chain.up hd6 hb8)
    | (go_at_call 29; (with_reducible refine (bad_any _).mono ?_); rintro e' w10 ⟨rfl, hb10⟩; have hc10 := Chain.up hc8 hb10)
    | (go_at_call 12; (with_reducible refine (awake_any _ (hu.up hc10)).mono ?_); rintro e' w9 ⟨rfl, hb9⟩; have hc9 := Chain.up hc10 hb9))
  go_ret
  exact ⟨rfl, hc9⟩
end Go.Proofs.YtcobfoiajdbahaaDoor

namespace Go.Proofs.YtcobfoiajdbahaaDoor
open Go.RowKit
set_option linter.unusedVariables false
set_option linter.unusedSimpArgs false
attribute [local go_sem high] eq_Call guardCall P.eqI_self
set_option maxRecDepth 100000 in
set_option maxHeartbeats 8000000 in
theorem only_00o (s t : List UInt8) (w : World) (hs : s.length ≤ 2000) (ht : t.length ≤ 2000) (hu : UsesOk w) :
    Calls Tryd.prog 10 #[S s, S t] w fun e' w' => e' = .returned (.bool true) ∧ Below w.heap.size w w' := by
  have hsl : ¬ 2000 < (s.length : Int) := by omega
  have htl : ¬ 2000 < (t.length : Int) := by omega
  have hq1 := hs
  have hq2 := ht
  go_enter Tryd.func10, Tryd.ntmps10
  have htd : decide ((2000 : Int) < (t.length : Int)) = false := decide_eq_false htl
  go_upto_region 3 with fail
  go_cut [0, 20] (fun s0 s20 wx => s0 = S s ∧ s20 = .bool false ∧ w = wx)
  case first =>
    go_wp2_with fail
    go_meet
    exact ⟨rfl, rfl, rfl⟩
  case rest =>
    obtain ⟨rfl, rfl, rfl⟩ := hcut
    rename_i K1 hK1 Kr hKr
    refine hKr _ _ ?_
    refine wp_cond_false (by rfl) (wp_skip ?_)
    show K1 _ _
    refine hK1 _ _ ?_
    cases hok : P.readOk s <;> cases his : P.hearOk t
    · exact only_00 s t w _ _ _ _ _ _ _ _ _ _ _ _ _ _ _ _ _ _ _ _ _ _ _ _ _ _ _ _ _ _ _ _ _ _ _ _ _ _ _ _ _ _ _ _ _ _ _ _ _ _ _ _ _ _ _ _ _ _ _ _ _ _ _ _ _ _ _ _ _ _ _ _ _ _ _ _ _ _ _ _ _ _ _ _ _ _ _ _ _ _ _ _ _ _ _ _ _ _ _ _ _ _ _ _ _ _ _ _ _ hq1 hq2 hu hok his
    · exact only_01 s t w _ _ _ _ _ _ _ _ _ _ _ _ _ _ _ _ _ _ _ _ _ _ _ _ _ _ _ _ _ _ _ _ _ _ _ _ _ _ _ _ _ _ _ _ _ _ _ _ _ _ _ _ _ _ _ _ _ _ _ _ _ _ _ _ _ _ _ _ _ _ _ _ _ _ _ _ _ _ _ _ _ _ _ _ _ _ _ _ _ _ _ _ _ _ _ _ _ _ _ _ _ _ _ _ _ _ _ _ _ hq1 hq2 hu hok his
    · exact only_10 s t w _ _ _ _ _ _ _ _ _ _ _ _ _ _ _ _ _ _ _ _ _ _ _ _ _ _ _ _ _ _ _ _ _ _ _ _ _ _ _ _ _ _ _ _ _ _ _ _ _ _ _ _ _ _ _ _ _ _ _ _ _ _ _ _ _ _ _ _ _ _ _ _ _ _ _ _ _ _ _ _ _ _ _ _ _ _ _ _ _ _ _ _ _ _ _ _ _ _ _ _ _ _ _ _ _ _ _ _ _ hq1 hq2 hu hok his
    · exact only_11 s t w _ _ _ _ _ _ _ _ _ _ _ _ _ _ _ _ _ _ _ _ _ _ _ _ _ _ _ _ _ _ _ _ _ _ _ _ _ _ _ _ _ _ _ _ _ _ _ _ _ _ _ _ _ _ _ _ _ _ _ _ _ _ _ _ _ _ _ _ _ _ _ _ _ _ _ _ _ _ _ _ _ _ _ _ _ _ _ _ _ _ _ _ _ _ _ _ _ _ _ _ _ _ _ _ _ _ _ _ _ hq1 hq2 hu hok his
set_option maxRecDepth 100000 in
set_option maxHeartbeats 8000000 in
theorem only_01o (s t : List UInt8) (w : World) (hs : s.length ≤ 2000) (ht : 2000 < t.length) (hu : UsesOk w) :
    Calls Tryd.prog 10 #[S s, S t] w fun e' w' => e' = .returned (.bool true) ∧ Below w.heap.size w w' := by
  have hsl : ¬ 2000 < (s.length : Int) := by omega
  have htl : 2000 < (t.length : Int) := by omega
  have hq1 := hs
  have httk := str_takeN t 2000
  have htl2 : 2000 ≤ t.length := by omega
  have hq2 : (t.take 2000).length ≤ 2000 := by rw [List.length_take]; omega
  generalize t.take 2000 = q2 at *
  go_enter Tryd.func10, Tryd.ntmps10
  go_upto_region 4 with fail
  go_cut [0, 1] (fun s0 s1 wx => s0 = S s ∧ s1 = S q2 ∧ w = wx)
  case first =>
    go_wp2_with fail
    go_meet
    exact ⟨rfl, rfl, rfl⟩
  case rest =>
    obtain ⟨rfl, rfl, rfl⟩ := hcut
    rename_i Kr hKr
    refine hKr _ _ ?_
    cases hok : P.readOk s <;> cases his : P.hearOk q2
    · exact only_00 s q2 w _ _ _ _ _ _ _ _ _ _ _ _ _ _ _ _ _ _ _ _ _ _ _ _ _ _ _ _ _ _ _ _ _ _ _ _ _ _ _ _ _ _ _ _ _ _ _ _ _ _ _ _ _ _ _ _ _ _ _ _ _ _ _ _ _ _ _ _ _ _ _ _ _ _ _ _ _ _ _ _ _ _ _ _ _ _ _ _ _ _ _ _ _ _ _ _ _ _ _ _ _ _ _ _ _ _ _ _ _ hq1 hq2 hu hok his
    · exact only_01 s q2 w _ _ _ _ _ _ _ _ _ _ _ _ _ _ _ _ _ _ _ _ _ _ _ _ _ _ _ _ _ _ _ _ _ _ _ _ _ _ _ _ _ _ _ _ _ _ _ _ _ _ _ _ _ _ _ _ _ _ _ _ _ _ _ _ _ _ _ _ _ _ _ _ _ _ _ _ _ _ _ _ _ _ _ _ _ _ _ _ _ _ _ _ _ _ _ _ _ _ _ _ _ _ _ _ _ _ _ _ _ hq1 hq2 hu hok his
    · exact only_10 s q2 w _ _ _ _ _ _ _ _ _ _ _ _ _ _ _ _ _ _ _ _ _ _ _ _ _ _ _ _ _ _ _ _ _ _ _ _ _ _ _ _ _ _ _ _ _ _ _ _ _ _ _ _ _ _ _ _ _ _ _ _ _ _ _ _ _ _ _ _ _ _ _ _ _ _ _ _ _ _ _ _ _ _ _ _ _ _ _ _ _ _ _ _ _ _ _ _ _ _ _ _ _ _ _ _ _ _ _ _ _ hq1 hq2 hu hok his
    · exact only_11 s q2 w _ _ _ _ _ _ _ _ _ _ _ _ _ _ _ _ _ _ _ _ _ _ _ _ _ _ _ _ _ _ _ _ _ _ _ _ _ _ _ _ _ _ _ _ _ _ _ _ _ _ _ _ _ _ _ _ _ _ _ _ _ _ _ _ _ _ _ _ _ _ _ _ _ _ _ _ _ _ _ _ _ _ _ _ _ _ _ _ _ _ _ _ _ _ _ _ _ _ _ _ _ _ _ _ _ _ _ _ _ hq1 hq2 hu hok his
set_option maxRecDepth 100000 in
set_option maxHeartbeats 8000000 in
theorem only_10o (s t : List UInt8) (w : World) (hs : 2000 < s.length) (ht : t.length ≤ 2000) (hu : UsesOk w) :
    Calls Tryd.prog 10 #[S s, S t] w fun e' w' => e' = .returned (.bool true) ∧ Below w.heap.size w w' := by
  have hsl : 2000 < (s.length : Int) := by omega
  have htl : ¬ 2000 < (t.length : Int) := by omega
  have hstk := str_takeN s 2000
  have hsl2 : 2000 ≤ s.length := by omega
  have hq1 : (s.take 2000).length ≤ 2000 := by rw [List.length_take]; omega
  generalize s.take 2000 = q at *
  have hq2 := ht
  go_enter Tryd.func10, Tryd.ntmps10
  have htd : decide ((2000 : Int) < (t.length : Int)) = false := decide_eq_false htl
  go_upto_region 3 with fail
  go_cut [0, 20] (fun s0 s20 wx => s0 = S q ∧ s20 = .bool false ∧ w = wx)
  case first =>
    go_wp2_with fail
    go_meet
    exact ⟨rfl, rfl, rfl⟩
  case rest =>
    obtain ⟨rfl, rfl, rfl⟩ := hcut
    rename_i K1 hK1 Kr hKr
    refine hKr _ _ ?_
    refine wp_cond_false (by rfl) (wp_skip ?_)
    show K1 _ _
    refine hK1 _ _ ?_
    cases hok : P.readOk q <;> cases his : P.hearOk t
    · exact only_00 q t w _ _ _ _ _ _ _ _ _ _ _ _ _ _ _ _ _ _ _ _ _ _ _ _ _ _ _ _ _ _ _ _ _ _ _ _ _ _ _ _ _ _ _ _ _ _ _ _ _ _ _ _ _ _ _ _ _ _ _ _ _ _ _ _ _ _ _ _ _ _ _ _ _ _ _ _ _ _ _ _ _ _ _ _ _ _ _ _ _ _ _ _ _ _ _ _ _ _ _ _ _ _ _ _ _ _ _ _ _ hq1 hq2 hu hok his
    · exact only_01 q t w _ _ _ _ _ _ _ _ _ _ _ _ _ _ _ _ _ _ _ _ _ _ _ _ _ _ _ _ _ _ _ _ _ _ _ _ _ _ _ _ _ _ _ _ _ _ _ _ _ _ _ _ _ _ _ _ _ _ _ _ _ _ _ _ _ _ _ _ _ _ _ _ _ _ _ _ _ _ _ _ _ _ _ _ _ _ _ _ _ _ _ _ _ _ _ _ _ _ _ _ _ _ _ _ _ _ _ _ _ hq1 hq2 hu hok his
    · exact only_10 q t w _ _ _ _ _ _ _ _ _ _ _ _ _ _ _ _ _ _ _ _ _ _ _ _ _ _ _ _ _ _ _ _ _ _ _ _ _ _ _ _ _ _ _ _ _ _ _ _ _ _ _ _ _ _ _ _ _ _ _ _ _ _ _ _ _ _ _ _ _ _ _ _ _ _ _ _ _ _ _ _ _ _ _ _ _ _ _ _ _ _ _ _ _ _ _ _ _ _ _ _ _ _ _ _ _ _ _ _ _ hq1 hq2 hu hok his
    · exact only_11 q t w _ _ _ _ _ _ _ _ _ _ _ _ _ _ _ _ _ _ _ _ _ _ _ _ _ _ _ _ _ _ _ _ _ _ _ _ _ _ _ _ _ _ _ _ _ _ _ _ _ _ _ _ _ _ _ _ _ _ _ _ _ _ _ _ _ _ _ _ _ _ _ _ _ _ _ _ _ _ _ _ _ _ _ _ _ _ _ _ _ _ _ _ _ _ _ _ _ _ _ _ _ _ _ _ _ _ _ _ _ hq1 hq2 hu hok his
set_option maxRecDepth 100000 in
set_option maxHeartbeats 8000000 in
theorem only_11o (s t : List UInt8) (w : World) (hs : 2000 < s.length) (ht : 2000 < t.length) (hu : UsesOk w) :
    Calls Tryd.prog 10 #[S s, S t] w fun e' w' => e' = .returned (.bool true) ∧ Below w.heap.size w w' := by
  have hsl : 2000 < (s.length : Int) := by omega
  have htl : 2000 < (t.length : Int) := by omega
  have hstk := str_takeN s 2000
  have hsl2 : 2000 ≤ s.length := by omega
  have hq1 : (s.take 2000).length ≤ 2000 := by rw [List.length_take]; omega
  generalize s.take 2000 = q at *
  have httk := str_takeN t 2000
  have htl2 : 2000 ≤ t.length := by omega
  have hq2 : (t.take 2000).length ≤ 2000 := by rw [List.length_take]; omega
  generalize t.take 2000 = q2 at *
  go_enter Tryd.func10, Tryd.ntmps10
  go_upto_region 4 with fail
  go_cut [0, 1] (fun s0 s1 wx => s0 = S q ∧ s1 = S q2 ∧ w = wx)
  case first =>
    go_wp2_with fail
    go_meet
    exact ⟨rfl, rfl, rfl⟩
  case rest =>
    obtain ⟨rfl, rfl, rfl⟩ := hcut
    rename_i Kr hKr
    refine hKr _ _ ?_
    cases hok : P.readOk q <;> cases his : P.hearOk q2
    · exact only_00 q q2 w _ _ _ _ _ _ _ _ _ _ _ _ _ _ _ _ _ _ _ _ _ _ _ _ _ _ _ _ _ _ _ _ _ _ _ _ _ _ _ _ _ _ _ _ _ _ _ _ _ _ _ _ _ _ _ _ _ _ _ _ _ _ _ _ _ _ _ _ _ _ _ _ _ _ _ _ _ _ _ _ _ _ _ _ _ _ _ _ _ _ _ _ _ _ _ _ _ _ _ _ _ _ _ _ _ _ _ _ _ hq1 hq2 hu hok his
    · exact only_01 q q2 w _ _ _ _ _ _ _ _ _ _ _ _ _ _ _ _ _ _ _ _ _ _ _ _ _ _ _ _ _ _ _ _ _ _ _ _ _ _ _ _ _ _ _ _ _ _ _ _ _ _ _ _ _ _ _ _ _ _ _ _ _ _ _ _ _ _ _ _ _ _ _ _ _ _ _ _ _ _ _ _ _ _ _ _ _ _ _ _ _ _ _ _ _ _ _ _ _ _ _ _ _ _ _ _ _ _ _ _ _ hq1 hq2 hu hok his
    · exact only_10 q q2 w _ _ _ _ _ _ _ _ _ _ _ _ _ _ _ _ _ _ _ _ _ _ _ _ _ _ _ _ _ _ _ _ _ _ _ _ _ _ _ _ _ _ _ _ _ _ _ _ _ _ _ _ _ _ _ _ _ _ _ _ _ _ _ _ _ _ _ _ _ _ _ _ _ _ _ _ _ _ _ _ _ _ _ _ _ _ _ _ _ _ _ _ _ _ _ _ _ _ _ _ _ _ _ _ _ _ _ _ _ hq1 hq2 hu hok his
    · exact only_11 q q2 w _ _ _ _ _ _ _ _ _ _ _ _ _ _ _ _ _ _ _ _ _ _ _ _ _ _ _ _ _ _ _ _ _ _ _ _ _ _ _ _ _ _ _ _ _ _ _ _ _ _ _ _ _ _ _ _ _ _ _ _ _ _ _ _ _ _ _ _ _ _ _ _ _ _ _ _ _ _ _ _ _ _ _ _ _ _ _ _ _ _ _ _ _ _ _ _ _ _ _ _ _ _ _ _ _ _ _ _ _ hq1 hq2 hu hok his
/-- The law. -/
theorem law_only (s t : List UInt8) (w : World) (hs : s.length ≤ 9223372036854775807) (ht : t.length ≤ 9223372036854775807) (hu : UsesOk w) :
    Calls Tryd.prog 10 #[S s, S t] w fun e' w' => e' = .returned (.bool true) ∧ Below w.heap.size w w' := by
  by_cases h1 : s.length ≤ 2000
  · by_cases h2 : t.length ≤ 2000
    · exact only_00o s t w h1 h2 hu
    · exact only_01o s t w h1 (by omega) hu
  · by_cases h2 : t.length ≤ 2000
    · exact only_10o s t w (by omega) h2 hu
    · exact only_11o s t w (by omega) (by omega) hu
end Go.Proofs.YtcobfoiajdbahaaDoor
