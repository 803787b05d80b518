/- ProtoShort: answers tell their call's Op, Client and Number, and are of their sizes; cut anywhere, or with anything behind, an answer is none. The walk of the law. -/
import Derived.Test.YtcobfoiajdbahaaDoorWQLookM
import Derived.Test.YtcobfoiajdbahaaDoorWQAwake
import Derived.Deep.DeepCutAuto

namespace Go.Proofs.YtcobfoiajdbahaaDoor.P
set_option linter.unusedVariables false
set_option linter.unusedSimpArgs false

theorem tailB_short {op : Nat} {a : An} (h : 1 ≤ op ∧ op ≤ 9) (hm : mayA op a = true) : (tailB op a).length ≤ 80 := by
  by_cases h57 : 5 ≤ op ∧ op ≤ 7
  · unfold mayA at hm
    rw [if_pos h57, Bool.and_eq_true] at hm
    have ho := hm.2
    unfold nameOk at ho
    simp only [decide_eq_true_eq] at ho
    unfold tailB
    rw [if_pos h57]
    unfold leB txB
    simp only [List.length_append]
    have h1 := adX_le a.a
    have h2 := row_len9 a.owner.length
    have h3 := row_len9 a.til
    omega
  · unfold tailB
    rw [if_neg h57, if_neg (by omega), if_neg (by omega), if_neg (by omega), if_neg (by omega), if_neg (by omega)]
    simp
theorem told_lists {op : Nat} {a : An} (hm : mayA op a = true) (ht : toldA op a = a) : a.rows.length ≤ 16 ∧ a.events.length ≤ 16 ∧ a.pools.length ≤ 16 := by
  by_cases h57 : 5 ≤ op ∧ op ≤ 7
  · rw [← ht]; unfold toldA; rw [if_pos h57]; exact ⟨by simp [noAn], by simp [noAn], by simp [noAn]⟩
  by_cases h10 : op = 10
  · rw [← ht]; unfold toldA; rw [if_neg h57, if_pos h10]; exact ⟨by simp [noAn], by simp [noAn], by simp [noAn]⟩
  by_cases h11 : op = 11
  · unfold mayA at hm
    rw [if_neg h57, if_neg h10, if_pos h11] at hm
    simp only [Bool.and_eq_true, decide_eq_true_eq] at hm
    rw [← ht]; unfold toldA; rw [if_neg h57, if_neg h10, if_pos h11]; exact ⟨hm.2, by simp [noAn], by simp [noAn]⟩
  by_cases h12 : op = 12
  · unfold mayA at hm
    rw [if_neg h57, if_neg h10, if_neg h11, if_pos h12] at hm
    simp only [Bool.and_eq_true, decide_eq_true_eq] at hm
    rw [← ht]; unfold toldA; rw [if_neg h57, if_neg h10, if_neg h11, if_pos h12]; exact ⟨by simp [noAn], hm.2, by simp [noAn]⟩
  by_cases h13 : op = 13 ∨ op = 14
  · unfold mayA at hm
    rw [if_neg h57, if_neg h10, if_neg h11, if_neg h12, if_pos h13] at hm
    simp only [Bool.and_eq_true, decide_eq_true_eq] at hm
    rw [← ht]; unfold toldA; rw [if_neg h57, if_neg h10, if_neg h11, if_neg h12, if_pos h13]; exact ⟨by simp [noAn], by simp [noAn], hm.2⟩
  by_cases h15 : op = 15
  · rw [← ht]; unfold toldA; rw [if_neg h57, if_neg h10, if_neg h11, if_neg h12, if_neg h13, if_pos h15]; exact ⟨by simp [noAn], by simp [noAn], by simp [noAn]⟩
  · rw [← ht]; unfold toldA; rw [if_neg h57, if_neg h10, if_neg h11, if_neg h12, if_neg h13, if_neg h15]; exact ⟨by simp [noAn], by simp [noAn], by simp [noAn]⟩
theorem tellB_len (op cl nu : Nat) (a : An) (e : Int) : (tellB op cl nu a e).length = 11 + (if e = 0 then tailB op a else []).length := by
  unfold tellB
  rw [List.length_cons, List.length_append, headB_len]
  omega
/-- What is heard, with all that is known of it. -/
structure Heard (s : List UInt8) (op cl nu : Nat) (a : An) (e : Nat) : Prop where
  c : hearC s = headC (op, cl, nu)
  a' : hearA s = a
  e' : hearN s = e
  is : s = tellB op cl nu a (e : Int)
  op' : op < 256
  cl' : cl < 256
  nu' : nu < 18446744073709551616
  lt : e < 256
  ty : tyAn a
  may : e = 0 → mayA op a = true
  told : e = 0 → toldA op a = a
  no : e ≠ 0 → a = noAn
  ok : hearOkE op (e : Int) = true
theorem heard_of {s : List UInt8} (h : hearOk s = true) : ∃ op cl nu a e, Heard s op cl nu a e := by
  obtain ⟨h1, h2, h3, h4, h5, h6⟩ := hear_is h
  obtain ⟨t1, t2, t3⟩ := hearH_ty s
  refine ⟨(hearH s).1.1, (hearH s).1.2.1, (hearH s).1.2.2, (hearT s).1, (hearE s).1, ?_⟩
  exact { c := by unfold hearC; rw [if_pos h], a' := by unfold hearA; rw [if_pos h], e' := by unfold hearN; rw [if_pos h], is := h1, op' := t1, cl' := t2, nu' := t3, lt := h2, ty := h3, may := fun e => (h5 e).1, told := fun e => (h5 e).2, no := h6, ok := h4 }
section
variable {s : List UInt8} {op cl nu : Nat} {a : An} {e : Nat}
theorem Heard.lists (h : Heard s op cl nu a e) : a.rows.length ≤ 16 ∧ a.events.length ≤ 16 ∧ a.pools.length ≤ 16 := by
  by_cases he : e = 0
  · exact told_lists (h.may he) (h.told he)
  · rw [h.no he]; exact ⟨by simp [noAn], by simp [noAn], by simp [noAn]⟩
theorem Heard.len (h : Heard s op cl nu a e) : 11 ≤ s.length ∧ (e ≠ 0 → s.length = 11) ∧ (1 ≤ op ∧ op ≤ 9 → s.length ≤ 100) := by
  rw [h.is, tellB_len]
  refine ⟨by omega, fun he => ?_, fun ho => ?_⟩
  · rw [if_neg (by omega)]; simp
  · by_cases he : e = 0
    · rw [if_pos (by omega)]
      have := tailB_short ho (h.may he)
      omega
    · rw [if_neg (by omega)]; simp
theorem Heard.known (h : Heard s op cl nu a e) (he : e = 0) : 1 ≤ op ∧ op ≤ 15 := by
  have := h.ok
  unfold hearOkE at this
  subst he
  simpa [knownB] using this
theorem Heard.cons (h : Heard s op cl nu a e) : ∃ r, s = byt e :: byt op :: byt cl :: r := ⟨_, by rw [h.is]; unfold tellB headB; rw [byI_nat e h.lt]; rfl⟩
theorem Heard.app (h : Heard s op cl nu a e) (x : List UInt8) : hearOk (s ++ x) = decide (x = []) := by
  have := (hear_app op cl nu a (e : Int) x h.op' h.cl' h.nu' h.ty (by have := h.lt; omega) (fun he => h.may (by omega))).1
  rw [← h.is, h.ok, Bool.true_and] at this
  exact this
end
theorem hear_cut {s : List UInt8} (h : hearOk s = true) (k : Nat) (hk : k < s.length) : hearOk (s.take k) = false := by
  cases hq : hearOk (s.take k) with
  | false => rfl
  | true =>
    obtain ⟨op, cl, nu, a, e, hh⟩ := heard_of hq
    have h1 := hh.app (s.drop k)
    rw [List.take_append_drop, h] at h1
    have h2 : s.drop k = [] := by simpa using h1.symm
    have h3 := congrArg List.length h2
    rw [List.length_drop] at h3
    simp at h3
    omega
end Go.Proofs.YtcobfoiajdbahaaDoor.P

namespace Go.Proofs.YtcobfoiajdbahaaDoor
open Go.RowKit
set_option linter.unusedVariables false
set_option linter.unusedSimpArgs false
abbrev noAnV : Value := .agg #[.int .u8 0, .int .u64 0, .int .u64 0, .string ⟨#[]⟩, .int .u64 0, .int .u8 0, .int .u64 0, .int .u64 0, .int .i64 0, .bool false, .bool false, .bool false, .int .u64 0, .slice none 0 0, .slice none 0 0, .slice none 0 0]
def P.greatC (x : P.Ca) : Bool := decide (2000 < x.owner.length) || decide (2000 < x.to.length)
theorem P.greatC_no {x : P.Ca} (h : P.greatC x = false) : x.owner.length ≤ 2000 ∧ x.to.length ≤ 2000 := by
  unfold P.greatC at h
  simp only [Bool.or_eq_false_iff, decide_eq_false_iff_not] at h
  omega
set_option maxRecDepth 100000 in
set_option maxHeartbeats 8000000 in
theorem greatC_any (x : P.Ca) (ho : x.owner.length ≤ 9223372036854775807) (hto : x.to.length ≤ 9223372036854775807) (w : World) :
    Calls Tryd.prog 11 #[caV x, noAnV] w fun e w' => e = .returned (.bool (P.greatC x)) ∧ Below w.heap.size w w' := by
  obtain ⟨h1, h2, hA⟩ := two_bx w #[.int .u8 (x.op : Nat), .int .u8 (x.client : Nat), V64 x.number, .int .u8 (x.p.a.fam : Nat), V64 x.p.a.hi, V64 x.p.a.lo, .int .i64 x.p.bits, .int .u8 (x.a.fam : Nat), V64 x.a.hi, V64 x.a.lo, S x.owner, S x.to, V64 x.d, V64 x.fr, .int .i64 x.n] #[.int .u8 0, .int .u64 0, .int .u64 0, .string ⟨#[]⟩, .int .u64 0, .int .u8 0, .int .u64 0, .int .u64 0, .int .i64 0, .bool false, .bool false, .bool false, .int .u64 0, .slice none 0 0, .slice none 0 0, .slice none 0 0] 28 36
  have hre : P.greatC x = (decide (2000 < x.owner.length) || decide (2000 < x.to.length)) := rfl
  by_cases ha : 2000 < x.owner.length
  · have hi : (2000 : Int) < (x.owner.length : Int) := by omega
    have hg : P.greatC x = true := by rw [hre, decide_eq_true ha]; rfl
    have Hg := Lib.hid hg
    clear hg hre ha
    go_enter Tryd.func11, Tryd.ntmps11
    go_upto_region 1 with fail
    generalize hW : (w.alloc (.cells #[.int .u8 (x.op : Nat), .int .u8 (x.client : Nat), V64 x.number, .int .u8 (x.p.a.fam : Nat), V64 x.p.a.hi, V64 x.p.a.lo, .int .i64 x.p.bits, .int .u8 (x.a.fam : Nat), V64 x.a.hi, V64 x.a.lo, S x.owner, S x.to, V64 x.d, V64 x.fr, .int .i64 x.n] 28)).alloc (.cells #[.int .u8 0, .int .u64 0, .int .u64 0, .string ⟨#[]⟩, .int .u64 0, .int .u8 0, .int .u64 0, .int .u64 0, .int .i64 0, .bool false, .bool false, .bool false, .int .u64 0, .slice none 0 0, .slice none 0 0, .slice none 0 0] 36) = w2 at *
    clear hW
    obtain ⟨⟨c0, c1, c2, c3, c4, c5, c6, c7, c8, c9, c10, c11, c12, c13, c14⟩, -⟩ := h1.cells15
    obtain ⟨⟨a0, a1, a2, a3, a4, a5, a6, a7, a8, a9, a10, a11, a12, a13, a14, a15⟩, -⟩ := h2.cells16
    go_wp2_with fail
    all_goals (go_ret; exact ⟨by rw [Hg.out]; rfl, hA⟩)
  · have hi : ¬ (2000 : Int) < (x.owner.length : Int) := by omega
    by_cases hb : 2000 < x.to.length
    · have hj : (2000 : Int) < (x.to.length : Int) := by omega
      have hg : P.greatC x = true := by rw [hre, decide_eq_false ha, decide_eq_true hb]; rfl
      have Hg := Lib.hid hg
      clear hg hre ha hb
      go_enter Tryd.func11, Tryd.ntmps11
      go_upto_region 1 with fail
      generalize hW : (w.alloc (.cells #[.int .u8 (x.op : Nat), .int .u8 (x.client : Nat), V64 x.number, .int .u8 (x.p.a.fam : Nat), V64 x.p.a.hi, V64 x.p.a.lo, .int .i64 x.p.bits, .int .u8 (x.a.fam : Nat), V64 x.a.hi, V64 x.a.lo, S x.owner, S x.to, V64 x.d, V64 x.fr, .int .i64 x.n] 28)).alloc (.cells #[.int .u8 0, .int .u64 0, .int .u64 0, .string ⟨#[]⟩, .int .u64 0, .int .u8 0, .int .u64 0, .int .u64 0, .int .i64 0, .bool false, .bool false, .bool false, .int .u64 0, .slice none 0 0, .slice none 0 0, .slice none 0 0] 36) = w2 at *
      clear hW
      obtain ⟨⟨c0, c1, c2, c3, c4, c5, c6, c7, c8, c9, c10, c11, c12, c13, c14⟩, -⟩ := h1.cells15
      obtain ⟨⟨a0, a1, a2, a3, a4, a5, a6, a7, a8, a9, a10, a11, a12, a13, a14, a15⟩, -⟩ := h2.cells16
      go_wp2_with fail
      all_goals (go_ret; exact ⟨by rw [Hg.out]; rfl, hA⟩)
    · have hj : ¬ (2000 : Int) < (x.to.length : Int) := by omega
      have hg : P.greatC x = false := by rw [hre, decide_eq_false ha, decide_eq_false hb]; rfl
      have Hg := Lib.hid hg
      clear hg hre ha hb
      go_enter Tryd.func11, Tryd.ntmps11
      go_upto_region 1 with fail
      generalize hW : (w.alloc (.cells #[.int .u8 (x.op : Nat), .int .u8 (x.client : Nat), V64 x.number, .int .u8 (x.p.a.fam : Nat), V64 x.p.a.hi, V64 x.p.a.lo, .int .i64 x.p.bits, .int .u8 (x.a.fam : Nat), V64 x.a.hi, V64 x.a.lo, S x.owner, S x.to, V64 x.d, V64 x.fr, .int .i64 x.n] 28)).alloc (.cells #[.int .u8 0, .int .u64 0, .int .u64 0, .string ⟨#[]⟩, .int .u64 0, .int .u8 0, .int .u64 0, .int .u64 0, .int .i64 0, .bool false, .bool false, .bool false, .int .u64 0, .slice none 0 0, .slice none 0 0, .slice none 0 0] 36) = w2 at *
      clear hW
      obtain ⟨⟨c0, c1, c2, c3, c4, c5, c6, c7, c8, c9, c10, c11, c12, c13, c14⟩, -⟩ := h1.cells15
      obtain ⟨⟨a0, a1, a2, a3, a4, a5, a6, a7, a8, a9, a10, a11, a12, a13, a14, a15⟩, -⟩ := h2.cells16
      go_wp2_with fail
      go_loopw [5] (fun i wr => i = .int .i64 0 ∧ Bx wr (w.heap.size + 1) 36 #[.int .u8 0, .int .u64 0, .int .u64 0, .string ⟨#[]⟩, .int .u64 0, .int .u8 0, .int .u64 0, .int .u64 0, .int .i64 0, .bool false, .bool false, .bool false, .int .u64 0, .slice none 0 0, .slice none 0 0, .slice none 0 0] ∧ Below w.heap.size w wr) (fun _ _ => 0)
      case atStart => exact ⟨rfl, h2, hA⟩
      case round =>
        clear a0 a1 a2 a3 a4 a5 a6 a7 a8 a9 a10 a11 a12 a13 a14 a15 h2 hA
        obtain ⟨rfl, h2, hA⟩ := hrel
        obtain ⟨⟨a0, a1, a2, a3, a4, a5, a6, a7, a8, a9, a10, a11, a12, a13, a14, a15⟩, -⟩ := h2.cells16
        go_wp2_with fail
        go_loopw [6] (fun i wr => i = .int .i64 0 ∧ Bx wr (w.heap.size + 1) 36 #[.int .u8 0, .int .u64 0, .int .u64 0, .string ⟨#[]⟩, .int .u64 0, .int .u8 0, .int .u64 0, .int .u64 0, .int .i64 0, .bool false, .bool false, .bool false, .int .u64 0, .slice none 0 0, .slice none 0 0, .slice none 0 0] ∧ Below w.heap.size w wr) (fun _ _ => 0)
        case atStart => exact ⟨rfl, h2, hA⟩
        case round =>
          clear a0 a1 a2 a3 a4 a5 a6 a7 a8 a9 a10 a11 a12 a13 a14 a15 h2 hA
          obtain ⟨rfl, h2, hA⟩ := hrel
          obtain ⟨⟨a0, a1, a2, a3, a4, a5, a6, a7, a8, a9, a10, a11, a12, a13, a14, a15⟩, -⟩ := h2.cells16
          go_wp2_with fail
          go_ret
          exact ⟨by rw [Hg.out]; rfl, hA⟩
theorem str_takeN (s : List UInt8) (m : Nat) : (ByteArray.mk s.toArray).extract 0 m = ⟨(s.take m).toArray⟩ := by
  rw [ByteArray.extract_mk, List.drop_zero, Nat.sub_zero]
theorem P.eqI_self (l : List Int) (s : List (List UInt8)) : P.eqI l l s s = true := by unfold P.eqI; simp
theorem P.read_cut {d : P.Ca} (h : P.rightC d = true) (ht : P.tyC d) (k : Nat) (hk : k < (P.bytesC d).length) : P.readOk ((P.bytesC d).take k) = false := by
  cases hq : P.readOk ((P.bytesC d).take k) with
  | false => rfl
  | true =>
    obtain ⟨r1, r2⟩ := P.read_is hq
    have e : P.bytesC d = P.bytesC (P.readC ((P.bytesC d).take k)) ++ (P.bytesC d).drop k := by rw [r2, List.take_append_drop]
    have h1 := (P.read_app r1 (P.readC_ty _).1 ((P.bytesC d).drop k)).1
    rw [← e, (P.read_right h ht).1] at h1
    have h2 : (P.bytesC d).drop k = [] := by simpa using h1.symm
    have h3 := congrArg List.length h2
    rw [List.length_drop] at h3
    simp at h3
    omega
end Go.Proofs.YtcobfoiajdbahaaDoor

namespace Go.Proofs.YtcobfoiajdbahaaDoor
open Go.RowKit
set_option linter.unusedVariables false
set_option linter.unusedSimpArgs false
attribute [local go_sem high] eq_Call guardCall P.eqI_self
theorem hear_yes {s : List UInt8} (hs : s.length ≤ 1000000) {op cl nu e : Nat} {a : P.An} (h : P.Heard s op cl nu a e) (ho : P.hearOk s = true) (w : World) :
    Calls Tryd.prog 23 #[S s] w fun e' w' => ∃ r rc v vc p pc, e' = .returned (.tuple #[.agg #[.int .u8 (op : Nat), .int .u8 (cl : Nat), V64 nu, .int .u8 0, .int .u64 0, .int .u64 0, .int .i64 0, .int .u8 0, .int .u64 0, .int .u64 0, .string ⟨#[]⟩, .string ⟨#[]⟩, .int .u64 0, .int .u64 0, .int .i64 0], .agg #[.int .u8 (a.a.fam : Nat), V64 a.a.hi, V64 a.a.lo, S a.owner, V64 a.til, .int .u8 (a.pool.a.fam : Nat), V64 a.pool.a.hi, V64 a.pool.a.lo, .int .i64 a.pool.bits, .bool a.has, .bool a.held, .bool a.live, V64 a.clock, .slice r a.rows.length rc, .slice v a.events.length vc, .slice p a.pools.length pc], .int .i64 (e : Nat), .bool true]) ∧ Below w.heap.size w w' :=
  (hear_any s hs w).mono fun e' w' h' => by
    obtain ⟨r, rc, v, vc, p, pc, h1, -, h2⟩ := h'
    rw [h.c, h.a', h.e', ho] at h1
    exact ⟨r, rc, v, vc, p, pc, h1, h2⟩
theorem hear_not {s : List UInt8} (hs : s.length ≤ 1000000) (ho : P.hearOk s = false) (w : World) :
    Calls Tryd.prog 23 #[S s] w fun e' w' => ∃ r rc v vc p pc, e' = .returned (.tuple #[.agg #[.int .u8 0, .int .u8 0, .int .u64 0, .int .u8 0, .int .u64 0, .int .u64 0, .int .i64 0, .int .u8 0, .int .u64 0, .int .u64 0, .string ⟨#[]⟩, .string ⟨#[]⟩, .int .u64 0, .int .u64 0, .int .i64 0], .agg #[.int .u8 0, .int .u64 0, .int .u64 0, .string ⟨#[]⟩, .int .u64 0, .int .u8 0, .int .u64 0, .int .u64 0, .int .i64 0, .bool false, .bool false, .bool false, .int .u64 0, .slice r 0 rc, .slice v 0 vc, .slice p 0 pc], .int .i64 0, .bool false]) ∧ Below w.heap.size w w' :=
  (hear_any s hs w).mono fun e' w' h' => by
    obtain ⟨r, rc, v, vc, p, pc, h1, -, h2⟩ := h'
    rw [show P.hearC s = P.noC by unfold P.hearC; rw [ho]; rfl, show P.hearA s = P.noAn by unfold P.hearA; rw [ho]; rfl, show P.hearN s = 0 by unfold P.hearN; rw [ho]; rfl, ho] at h1
    exact ⟨r, rc, v, vc, p, pc, h1, h2⟩
theorem str_cat (s t : List UInt8) : (ByteArray.mk s.toArray ++ ByteArray.mk t.toArray) = ByteArray.mk (s ++ t).toArray := by simp [ByteArray.ext_iff, ByteArray.data_append]
end Go.Proofs.YtcobfoiajdbahaaDoor

namespace Go.Proofs.YtcobfoiajdbahaaDoor
open Go.RowKit
set_option linter.unusedVariables false
set_option linter.unusedSimpArgs false
attribute [local go_sem high] eq_Call guardCall P.eqI_self
/-- The code behind so many parts of a row. -/
def afterSeqS : Nat → Code → Code
  | 0, c => c
  | n + 1, .seq _ b => afterSeqS n b
  | _, c => c
noncomputable def restS5 : Code := afterSeqS 3 ((Tryd.f8.body).getD .skip)
noncomputable def restS : Code := afterSeqS 6 ((Tryd.f8.body).getD .skip)
set_option maxRecDepth 1000000 in
set_option maxHeartbeats 16000000 in
theorem short_tail (q : List UInt8) (z : Nat) (t : List UInt8) (w w4 : World) (g7 op cl nu e : Nat) (a : P.An) (r v p : Option Addr) (rc vc pc : Nat) (u3 u4 u5 u6 u9 u10 u11 u12 u13 u14 u15 u16 u17 u18 u19 u20 u21 u22 u23 u24 u25 u26 u27 u28 u29 u30 u31 u32 u33 u34 u35 u36 u37 u38 u39 u40 u41 u42 u43 u44 u45 u46 u47 u48 u49 u50 u51 u52 u53 u54 u55 u56 u57 u58 u59 u60 u61 u62 u63 u64 u65 u66 u67 u68 u69 u70 u71 u72 u73 u74 u75 u76 u77 u78 u79 u80 u81 u82 u83 u84 u85 u86 u87 u88 u89 u90 u91 u92 u93 u94 u95 u96 u97 u98 u99 u100 u101 u102 u103 u104 u105 u106 u107 u108 u109 u110 u111 u112 u113 u114 u115 u116 u117 u118 u119 u120 u121 u122 u123 u124 u125 u126 u127 u128 u129 u130 u131 u132 u133 u134 u135 u136 u137 u138 u139 u140 u141 u142 u143 u144 u145 : Value) (hql : q.length ≤ 2000) (hz : z < 65536) (hl : t.length ≤ 100) (hu : UsesOk w) (hk : P.hearOk q = true) (hh : P.Heard q op cl nu a e)
    (yd : Bx w4 g7 28 #[.int .u8 (op : Nat), .int .u8 (cl : Nat), V64 nu, .int .u8 0, .int .u64 0, .int .u64 0, .int .i64 0, .int .u8 0, .int .u64 0, .int .u64 0, .string ⟨#[]⟩, .string ⟨#[]⟩, .int .u64 0, .int .u64 0, .int .i64 0]) (zd : Bx w4 (g7 + 1) 36 #[.int .u8 (a.a.fam : Nat), V64 a.a.hi, V64 a.a.lo, S a.owner, V64 a.til, .int .u8 (a.pool.a.fam : Nat), V64 a.pool.a.hi, V64 a.pool.a.lo, .int .i64 a.pool.bits, .bool a.has, .bool a.held, .bool a.live, V64 a.clock, .slice r a.rows.length rc, .slice v a.events.length vc, .slice p a.pools.length pc]) (hd4d : Below w.heap.size w w4) :
    Code.wp Tryd.prog restS (bodyPost Tryd.prog Tryd.f8 fun e' w' => e' = .returned (.bool true) ∧ Below w.heap.size w w') ⟨#[S q, .int .u16 (z : Int), S t, u3, u4, u5, u6, .pointer (some ⟨g7, 0, none⟩), .pointer (some ⟨g7 + 1, 0, none⟩), u9, u10, u11, u12, u13, u14, u15, u16, u17, u18, u19, u20, u21, u22, u23, u24, u25, u26, u27, u28, u29, u30, u31, u32, u33, u34, u35, u36, u37, u38, u39, u40, u41, u42, u43, u44, u45, u46, u47, u48, u49, u50, u51, u52, u53, u54, u55, u56, u57, u58, u59, u60, u61, u62, u63, u64, u65, u66, u67, u68, u69, u70, u71, u72, u73, u74, u75, u76, u77, u78, u79, u80, u81, u82, u83, u84, u85, u86, u87, u88, u89, u90, u91, u92, u93, u94, u95, u96, u97, u98, u99, u100, u101, u102, u103, u104, u105, u106, u107, u108, u109, u110, u111, u112, u113, u114, u115, u116, u117, u118, u119, u120, u121, u122, u123, u124, u125, u126, u127, u128, u129, u130, u131, u132, u133, u134, u135, u136, u137, u138, u139, u140, u141, u142, u143, u144, u145], []⟩ w4 := by
  conv => arg 2; whnf
  obtain ⟨l1, l2, l3⟩ := hh.len
  obtain ⟨n1, n2, n3⟩ := hh.lists
  have hm : z % q.length < q.length := Nat.mod_lt _ (by omega)
  have hcut := P.hear_cut hk _ hm
  have hHM := hh.app t
  have HN := Lib.hid (fun wx => hear_not (s := q.take (z % q.length)) (by rw [List.length_take]; omega) hcut wx)
  have HM := Lib.hid (fun wx => show Calls Tryd.prog 23 #[.string (ByteArray.mk q.toArray ++ ByteArray.mk t.toArray)] wx fun e' w' => ∃ r rc v vc p pc, e' = .returned (.tuple #[caV (P.hearC (q ++ t)), anV (P.hearA (q ++ t)) r rc v vc p pc, .int .i64 (P.hearN (q ++ t) : Nat), .bool (decide (t = []))]) ∧ Below wx.heap.size wx w' from by
    rw [str_cat]
    refine (hear_any (q ++ t) (by rw [List.length_append]; omega) wx).mono fun e' w' h' => ?_
    obtain ⟨r, rc, v, vc, p, pc, h1, -, h2⟩ := h'
    rw [hHM] at h1
    exact ⟨r, rc, v, vc, p, pc, h1, h2⟩)
  clear hHM
  generalize P.hearC (q ++ t) = C at *
  generalize P.hearA (q ++ t) = A at *
  generalize P.hearN (q ++ t) = N at *
  have m1 : ¬ (16 : Int) < (a.rows.length : Int) := by omega
  have m2 : ¬ (16 : Int) < (a.events.length : Int) := by omega
  have m3 : ¬ (16 : Int) < (a.pools.length : Int) := by omega
  have hzz : (z : Int) % (q.length : Int) = ((z % q.length : Nat) : Int) := by omega
  have hcut2 := str_takeN q (z % q.length)
  have hadd : ¬ 9223372036854775807 < q.length + t.length := by omega
  have hzi : (z : Int) ≤ 65535 := by omega
  have hnb : ((q.length : Int) == 0) = false := beq_eq_false_iff_ne.2 (by omega)
  generalize z % q.length = m at *
  have hmi : (m : Int) ≤ (q.length : Int) := by omega
  have hm0 : (0 : Int) ≤ (m : Int) := by omega
  have hml : m ≤ q.length := by omega
  clear l1 l2 l3 n1 n2 n3 hcut hh hk
  obtain ⟨⟨c0, c1, c2, -⟩, -⟩ := yd.cells15
  obtain ⟨⟨-, -, -, -, -, -, -, -, -, -, -, -, -, a13, a14, a15⟩, -⟩ := zd.cells16
  go_upto_region 12 with (first
    | (refine wpList_ldB (by rfl) _ _ (by rfl) yd (by rfl) structCall 15 infoCall (by rfl) ?_))
  clear yd zd c0 c1 c2 a13 a14 a15 m1 m2 m3
  go_upto_region 13 with (first
    | (go_at_call 23; (with_reducible refine (HN.out _).mono ?_); rintro e' x5 ⟨r5, r5c, v5, v5c, p5, p5c, rfl, hb5⟩; have hc5 := Chain.up hd4d hb5; obtain ⟨y5, z5, hB5⟩ := two_bx x5 #[.int .u8 0, .int .u8 0, .int .u64 0, .int .u8 0, .int .u64 0, .int .u64 0, .int .i64 0, .int .u8 0, .int .u64 0, .int .u64 0, .string ⟨#[]⟩, .string ⟨#[]⟩, .int .u64 0, .int .u64 0, .int .i64 0] #[.int .u8 0, .int .u64 0, .int .u64 0, .string ⟨#[]⟩, .int .u64 0, .int .u8 0, .int .u64 0, .int .u64 0, .int .i64 0, .bool false, .bool false, .bool false, .int .u64 0, .slice none 0 0, .slice none 0 0, .slice none 0 0] 28 36)
    | (refine wpList_stB (by rfl) _ _ _ (by rfl) y5 _ _ (by rfl) (by rfl) 15 15 (by rfl) (by rfl) (by decide) infoCall (by rfl) (by rfl) ?_; intro u5 hz' hsu5; have yy5 : Bx u5 x5.heap.size 28 #[.int .u8 0, .int .u8 0, .int .u64 0, .int .u8 0, .int .u64 0, .int .u64 0, .int .i64 0, .int .u8 0, .int .u64 0, .int .u64 0, .string ⟨#[]⟩, .string ⟨#[]⟩, .int .u64 0, .int .u64 0, .int .i64 0] := hz'; clear hz'; have zz5 := z5.but hsu5 (by omega); skip)
    | (refine wpList_stB (by rfl) _ _ _ (by rfl) zz5 _ _ (by rfl) (by rfl) 16 16 (by rfl) (by rfl) (by decide) infoAns (by rfl) (by rfl) ?_; intro t5 hz' hst5; have zf5 : Bx t5 (x5.heap.size + 1) 36 #[.int .u8 0, .int .u64 0, .int .u64 0, .string ⟨#[]⟩, .int .u64 0, .int .u8 0, .int .u64 0, .int .u64 0, .int .i64 0, .bool false, .bool false, .bool false, .int .u64 0, .slice r5 0 r5c, .slice v5 0 v5c, .slice p5 0 p5c] := hz'; clear hz'; have yf5 := yy5.but hst5 (by omega); have hd5 := Chain.up hc5 ((hB5.trans (hsu5.below (Nat.le_refl _) hB5.size)).trans (hst5.below (Nat.le_succ _) (by have := hB5.size; have := hsu5.size; omega))); skip))
  clear hcut2 hzz hmi hm0 hml HN
  go_upto_region 14 with (first
    | (go_at_call 23; (with_reducible refine (HM.out _).mono ?_); rintro e' x6 ⟨r6, r6c, v6, v6c, p6, p6c, rfl, hb6⟩; have hc6 := Chain.up hd5 hb6; obtain ⟨y6, z6, hB6⟩ := two_bx x6 #[.int .u8 0, .int .u8 0, .int .u64 0, .int .u8 0, .int .u64 0, .int .u64 0, .int .i64 0, .int .u8 0, .int .u64 0, .int .u64 0, .string ⟨#[]⟩, .string ⟨#[]⟩, .int .u64 0, .int .u64 0, .int .i64 0] #[.int .u8 0, .int .u64 0, .int .u64 0, .string ⟨#[]⟩, .int .u64 0, .int .u8 0, .int .u64 0, .int .u64 0, .int .i64 0, .bool false, .bool false, .bool false, .int .u64 0, .slice none 0 0, .slice none 0 0, .slice none 0 0] 28 36)
    | (refine wpList_stB (by rfl) _ _ _ (by rfl) y6 _ _ (by rfl) (by rfl) 15 15 (by rfl) (by rfl) (by decide) infoCall (by rfl) (by rfl) ?_; intro u6 hz' hsu6; have yy6 : Bx u6 x6.heap.size 28 #[.int .u8 (C.op : Nat), .int .u8 (C.client : Nat), V64 C.number, .int .u8 (C.p.a.fam : Nat), V64 C.p.a.hi, V64 C.p.a.lo, .int .i64 C.p.bits, .int .u8 (C.a.fam : Nat), V64 C.a.hi, V64 C.a.lo, S C.owner, S C.to, V64 C.d, V64 C.fr, .int .i64 C.n] := hz'; clear hz'; have zz6 := z6.but hsu6 (by omega); skip)
    | (refine wpList_stB (by rfl) _ _ _ (by rfl) zz6 _ _ (by rfl) (by rfl) 16 16 (by rfl) (by rfl) (by decide) infoAns (by rfl) (by rfl) ?_; intro t6 hz' hst6; have zf6 : Bx t6 (x6.heap.size + 1) 36 #[.int .u8 (A.a.fam : Nat), V64 A.a.hi, V64 A.a.lo, S A.owner, V64 A.til, .int .u8 (A.pool.a.fam : Nat), V64 A.pool.a.hi, V64 A.pool.a.lo, .int .i64 A.pool.bits, .bool A.has, .bool A.held, .bool A.live, V64 A.clock, .slice r6 A.rows.length r6c, .slice v6 A.events.length v6c, .slice p6 A.pools.length p6c] := hz'; clear hz'; have yf6 := yy6.but hst6 (by omega); have hd6 := Chain.up hc6 ((hB6.trans (hsu6.below (Nat.le_refl _) hB6.size)).trans (hst6.below (Nat.le_succ _) (by have := hB6.size; have := hsu6.size; omega))); skip))
  clear HM
  cases hte : decide (t = []) with
  | true =>
    have he1 : t = [] := of_decide_eq_true hte
    have he2 : t.isEmpty = true := by rw [he1]; rfl
    clear hte
    go_wp2_with (go_at_call 12; (with_reducible refine (awake_any _ (hu.up hd6)).mono ?_); rintro e' w9 ⟨rfl, hb9⟩; have hc9 := Chain.up hd6 hb9)
    go_ret
    exact ⟨rfl, hc9⟩
  | false =>
    have he1 : ¬ t = [] := of_decide_eq_false hte
    have he2 : t.isEmpty = false := by cases t with | nil => exact absurd rfl he1 | cons _ _ => rfl
    clear hte
    go_wp2_with (go_at_call 12; (with_reducible refine (awake_any _ (hu.up hd6)).mono ?_); rintro e' w9 ⟨rfl, hb9⟩; have hc9 := Chain.up hd6 hb9)
    go_ret
    exact ⟨rfl, hc9⟩
end Go.Proofs.YtcobfoiajdbahaaDoor

namespace Go.Proofs.YtcobfoiajdbahaaDoor
open Go.RowKit
set_option linter.unusedVariables false
set_option linter.unusedSimpArgs false
attribute [local go_sem high] eq_Call guardCall P.eqI_self
set_option maxRecDepth 1000000 in
set_option maxHeartbeats 16000000 in
theorem short_11 (q : List UInt8) (z : Nat) (t : List UInt8) (w : World) (u3 u4 u5 u6 u7 u8 u9 u10 u11 u12 u13 u14 u15 u16 u17 u18 u19 u20 u21 u22 u23 u24 u25 u26 u27 u28 u29 u30 u31 u32 u33 u34 u35 u36 u37 u38 u39 u40 u41 u42 u43 u44 u45 u46 u47 u48 u49 u50 u51 u52 u53 u54 u55 u56 u57 u58 u59 u60 u61 u62 u63 u64 u65 u66 u67 u68 u69 u70 u71 u72 u73 u74 u75 u76 u77 u78 u79 u80 u81 u82 u83 u84 u85 u86 u87 u88 u89 u90 u91 u92 u93 u94 u95 u96 u97 u98 u99 u100 u101 u102 u103 u104 u105 u106 u107 u108 u109 u110 u111 u112 u113 u114 u115 u116 u117 u118 u119 u120 u121 u122 u123 u124 u125 u126 u127 u128 u129 u130 u131 u132 u133 u134 u135 u136 u137 u138 u139 u140 u141 u142 u143 u144 u145 : Value) (hql : q.length ≤ 2000) (hz : z < 65536) (hl : t.length ≤ 100) (hu : UsesOk w) (hk : P.hearOk q = true) (op cl nu e : Nat) (a : P.An) (hh : P.Heard q op cl nu a e) (he : e = 0) (ho : 1 ≤ op ∧ op ≤ 9) :
    Code.wp Tryd.prog restS5 (bodyPost Tryd.prog Tryd.f8 fun e' w' => e' = .returned (.bool true) ∧ Below w.heap.size w w') ⟨#[S q, .int .u16 (z : Int), S t, u3, u4, u5, u6, u7, u8, u9, u10, u11, u12, u13, u14, u15, u16, u17, u18, u19, u20, u21, u22, u23, u24, u25, u26, u27, u28, u29, u30, u31, u32, u33, u34, u35, u36, u37, u38, u39, u40, u41, u42, u43, u44, u45, u46, u47, u48, u49, u50, u51, u52, u53, u54, u55, u56, u57, u58, u59, u60, u61, u62, u63, u64, u65, u66, u67, u68, u69, u70, u71, u72, u73, u74, u75, u76, u77, u78, u79, u80, u81, u82, u83, u84, u85, u86, u87, u88, u89, u90, u91, u92, u93, u94, u95, u96, u97, u98, u99, u100, u101, u102, u103, u104, u105, u106, u107, u108, u109, u110, u111, u112, u113, u114, u115, u116, u117, u118, u119, u120, u121, u122, u123, u124, u125, u126, u127, u128, u129, u130, u131, u132, u133, u134, u135, u136, u137, u138, u139, u140, u141, u142, u143, u144, u145], []⟩ w := by
  conv => arg 2; whnf
  have hc0 := Below.refl w.heap.size w
  obtain ⟨l1, l2, l3⟩ := hh.len
  have HY := Lib.hid (fun wx => hear_yes (by omega) hh hk wx)
  have hb0 : ((ByteArray.mk q.toArray)[0]'(by show 0 < q.toArray.size; simp; omega)).toNat = e := by obtain ⟨r, hr⟩ := hh.cons; subst hr; show (P.byt e).toNat = e; rw [P.byt_toNat]; have := hh.lt; omega
  have hb1 : ((ByteArray.mk q.toArray)[1]'(by show 1 < q.toArray.size; simp; omega)).toNat = op := by obtain ⟨r, hr⟩ := hh.cons; subst hr; show (P.byt op).toNat = op; rw [P.byt_toNat]; have := hh.op'; omega
  have hb2 : ((ByteArray.mk q.toArray)[2]'(by show 2 < q.toArray.size; simp; omega)).toNat = cl := by obtain ⟨r, hr⟩ := hh.cons; subst hr; show (P.byt cl).toNat = cl; rw [P.byt_toNat]; have := hh.cl'; omega
  have hew : IntKind.u8.wrap (e : Int) = (e : Int) := by
    have := hh.lt
    unfold IntKind.wrap
    simp [IntKind.signed, IntKind.bits]
    omega
  have hem : (e : Int) % 256 = (e : Int) := by have := hh.lt; omega
  have h11 : ¬ (q.length : Int) < (11 : Int) := by omega
  have he0 : ((e : Int) != 0) = false := by simp [he]
  have h100 : ¬ (100 : Int) < (q.length : Int) := by have := l3 ho; omega
  have ho1 : decide ((1 : Int) ≤ (op : Int)) = true := decide_eq_true (by omega)
  have ho9 : decide ((op : Int) ≤ 9) = true := decide_eq_true (by omega)
  have Hh := Lib.hid hh
  have Hk := Lib.hid hk
  clear l2 l3 hh hk ho he
  go_upto_region 8 with (first
    | (go_at_call 23; (with_reducible refine (HY.out _).mono ?_); rintro e' x4 ⟨r, rc, v, vc, p, pc, rfl, hb4⟩; have hc4 := Chain.up hc0 hb4; obtain ⟨y4, z4, hB4⟩ := two_bx x4 #[.int .u8 0, .int .u8 0, .int .u64 0, .int .u8 0, .int .u64 0, .int .u64 0, .int .i64 0, .int .u8 0, .int .u64 0, .int .u64 0, .string ⟨#[]⟩, .string ⟨#[]⟩, .int .u64 0, .int .u64 0, .int .i64 0] #[.int .u8 0, .int .u64 0, .int .u64 0, .string ⟨#[]⟩, .int .u64 0, .int .u8 0, .int .u64 0, .int .u64 0, .int .i64 0, .bool false, .bool false, .bool false, .int .u64 0, .slice none 0 0, .slice none 0 0, .slice none 0 0] 28 36)
    | (refine wpList_stB (by rfl) _ _ _ (by rfl) y4 _ _ (by rfl) (by rfl) 15 15 (by rfl) (by rfl) (by decide) infoCall (by rfl) (by rfl) ?_; intro w3 hz' hsw3; have yy4 : Bx w3 x4.heap.size 28 #[.int .u8 (op : Nat), .int .u8 (cl : Nat), V64 nu, .int .u8 0, .int .u64 0, .int .u64 0, .int .i64 0, .int .u8 0, .int .u64 0, .int .u64 0, .string ⟨#[]⟩, .string ⟨#[]⟩, .int .u64 0, .int .u64 0, .int .i64 0] := hz'; clear hz'; have zz4 := z4.but hsw3 (by omega); skip)
    | (refine wpList_stB (by rfl) _ _ _ (by rfl) zz4 _ _ (by rfl) (by rfl) 16 16 (by rfl) (by rfl) (by decide) infoAns (by rfl) (by rfl) ?_; intro w4 hz' hsw4; have zf4 : Bx w4 (x4.heap.size + 1) 36 #[.int .u8 (a.a.fam : Nat), V64 a.a.hi, V64 a.a.lo, S a.owner, V64 a.til, .int .u8 (a.pool.a.fam : Nat), V64 a.pool.a.hi, V64 a.pool.a.lo, .int .i64 a.pool.bits, .bool a.has, .bool a.held, .bool a.live, V64 a.clock, .slice r a.rows.length rc, .slice v a.events.length vc, .slice p a.pools.length pc] := hz'; clear hz'; have yf4 := yy4.but hsw4 (by omega); have hd4 := Chain.up hc4 ((hB4.trans (hsw3.below (Nat.le_refl _) hB4.size)).trans (hsw4.below (Nat.le_succ _) (by have := hB4.size; have := hsw3.size; omega))); skip))
  refine wp_region_held_drew (S := fun wx => Below w4.heap.size w4 wx) (by kernel_rfl) (Below.refl _ _).drew (fun hHeld => ?_)
  refine wpAnyH_take (i := 0) (v := ?_) rfl (by kernel_rfl) (by kernel_rfl) (by kernel_rfl) (fun _ _ _ h => h) (Or.inl ⟨by rfl, ?_⟩) hHeld ?_
  rotate_left
  · intro wq hSw; go_simp; (try with_reducible rfl)
  simp only [Act.put, List.getElem_toArray, List.getElem_cons_succ, List.getElem_cons_zero, List.setIfInBounds_toArray, List.set_cons_zero, List.set_cons_succ]
  refine wpAnyH_take (i := 1) (v := ?_) rfl (by kernel_rfl) (by kernel_rfl) (by kernel_rfl) (fun _ _ _ h => h) (Or.inl ⟨by rfl, ?_⟩) hHeld ?_
  rotate_left
  · intro wq hSw; go_simp; (try with_reducible rfl)
  simp only [Act.put, List.getElem_toArray, List.getElem_cons_succ, List.getElem_cons_zero, List.setIfInBounds_toArray, List.set_cons_zero, List.set_cons_succ]
  refine wpAnyH_take (i := 2) (v := .bool false) rfl (by kernel_rfl) (by kernel_rfl) (by kernel_rfl) (fun _ _ _ h => h) (Or.inl ⟨by rfl, ?_⟩) hHeld ?_
  · intro wq hSw; go_simp; (try (first | (with_reducible rfl) | rfl | exact hew | (intro hcon; exfalso; (first | omega | (rw [hcon] at l1; simp at l1; done))) | (simp [*]; done) | (simp [*]; omega)))
  simp only [Act.put, List.getElem_toArray, List.getElem_cons_succ, List.getElem_cons_zero, List.setIfInBounds_toArray, List.set_cons_zero, List.set_cons_succ]
  refine wpAnyH_take (i := 3) (v := ?_) rfl (by kernel_rfl) (by kernel_rfl) (by kernel_rfl) (fun _ _ _ h => h) (Or.inl ⟨by rfl, ?_⟩) hHeld ?_
  rotate_left
  · intro wq hSw; go_simp; (try with_reducible rfl)
  simp only [Act.put, List.getElem_toArray, List.getElem_cons_succ, List.getElem_cons_zero, List.setIfInBounds_toArray, List.set_cons_zero, List.set_cons_succ]
  refine wpAnyH_take (i := 4) (v := ?_) rfl (by kernel_rfl) (by kernel_rfl) (by kernel_rfl) (fun _ _ _ h => h) (Or.inl ⟨by rfl, ?_⟩) hHeld ?_
  rotate_left
  · intro wq hSw; go_simp; (try with_reducible rfl)
  simp only [Act.put, List.getElem_toArray, List.getElem_cons_succ, List.getElem_cons_zero, List.setIfInBounds_toArray, List.set_cons_zero, List.set_cons_succ]
  refine wpAnyH_take (i := 5) (v := .int .u8 (e : Nat)) rfl (by kernel_rfl) (by kernel_rfl) (by kernel_rfl) (fun _ _ _ h => h) (Or.inl ⟨by rfl, ?_⟩) hHeld ?_
  · intro wq hSw; go_simp; (try (first | (with_reducible rfl) | rfl | exact hew | (intro hcon; exfalso; (first | omega | (rw [hcon] at l1; simp at l1; done))) | (simp [*]; done) | (simp [*]; omega)))
  simp only [Act.put, List.getElem_toArray, List.getElem_cons_succ, List.getElem_cons_zero, List.setIfInBounds_toArray, List.set_cons_zero, List.set_cons_succ]
  refine wpAnyH_take (i := 6) (v := ?_) rfl (by kernel_rfl) (by kernel_rfl) (by kernel_rfl) (fun _ _ _ h => h) (Or.inl ⟨by rfl, ?_⟩) hHeld ?_
  rotate_left
  · intro wq hSw; go_simp; (try with_reducible rfl)
  simp only [Act.put, List.getElem_toArray, List.getElem_cons_succ, List.getElem_cons_zero, List.setIfInBounds_toArray, List.set_cons_zero, List.set_cons_succ]
  refine wpAnyH_take (i := 7) (v := .int .u8 (e : Nat)) rfl (by kernel_rfl) (by kernel_rfl) (by kernel_rfl) (fun _ _ _ h => h) (Or.inl ⟨by rfl, ?_⟩) hHeld ?_
  · intro wq hSw; go_simp; (try (first | (with_reducible rfl) | rfl | exact hew | (intro hcon; exfalso; (first | omega | (rw [hcon] at l1; simp at l1; done))) | (simp [*]; done) | (simp [*]; omega)))
  simp only [Act.put, List.getElem_toArray, List.getElem_cons_succ, List.getElem_cons_zero, List.setIfInBounds_toArray, List.set_cons_zero, List.set_cons_succ]
  refine wpAnyH_take (i := 8) (v := .bool false) rfl (by kernel_rfl) (by kernel_rfl) (by kernel_rfl) (fun _ _ _ h => h) (Or.inl ⟨by rfl, ?_⟩) hHeld ?_
  · intro wq hSw; go_simp; (try (first | (with_reducible rfl) | rfl | exact hew | (intro hcon; exfalso; (first | omega | (rw [hcon] at l1; simp at l1; done))) | (simp [*]; done) | (simp [*]; omega)))
  simp only [Act.put, List.getElem_toArray, List.getElem_cons_succ, List.getElem_cons_zero, List.setIfInBounds_toArray, List.set_cons_zero, List.set_cons_succ]
  refine wpAnyH_take (i := 9) (v := .bool false) rfl (by kernel_rfl) (by kernel_rfl) (by kernel_rfl) (fun _ _ _ h => h) (Or.inl ⟨by rfl, ?_⟩) hHeld ?_
  · intro wq hSw; go_simp; (try (first | (with_reducible rfl) | rfl | exact hew | (intro hcon; exfalso; (first | omega | (rw [hcon] at l1; simp at l1; done))) | (simp [*]; done) | (simp [*]; omega)))
  simp only [Act.put, List.getElem_toArray, List.getElem_cons_succ, List.getElem_cons_zero, List.setIfInBounds_toArray, List.set_cons_zero, List.set_cons_succ]
  refine wpAnyH_take (i := 10) (v := ?_) rfl (by kernel_rfl) (by kernel_rfl) (by kernel_rfl) (fun _ _ _ h => h) (Or.inl ⟨by rfl, ?_⟩) hHeld ?_
  rotate_left
  · intro wq hSw; go_simp; (try with_reducible rfl)
  simp only [Act.put, List.getElem_toArray, List.getElem_cons_succ, List.getElem_cons_zero, List.setIfInBounds_toArray, List.set_cons_zero, List.set_cons_succ]
  refine wpAnyH_take (i := 11) (v := ?_) rfl (by kernel_rfl) (by kernel_rfl) (by kernel_rfl) (fun _ _ _ h => h) (Or.inl ⟨by rfl, ?_⟩) hHeld ?_
  rotate_left
  · intro wq hSw; go_simp; (try with_reducible rfl)
  simp only [Act.put, List.getElem_toArray, List.getElem_cons_succ, List.getElem_cons_zero, List.setIfInBounds_toArray, List.set_cons_zero, List.set_cons_succ]
  refine wpAnyH_take (i := 12) (v := .int .u8 (op : Nat)) rfl (by kernel_rfl) (by kernel_rfl) (by kernel_rfl) (fun _ _ _ h => h) (Or.inl ⟨by rfl, ?_⟩) hHeld ?_
  · intro wq hSw; go_simp; (try (first | (with_reducible rfl) | rfl | exact hew | (intro hcon; exfalso; (first | omega | (rw [hcon] at l1; simp at l1; done))) | (simp [*]; done) | (simp [*]; omega)))
  simp only [Act.put, List.getElem_toArray, List.getElem_cons_succ, List.getElem_cons_zero, List.setIfInBounds_toArray, List.set_cons_zero, List.set_cons_succ]
  refine wpAnyH_take (i := 13) (v := ?_) rfl (by kernel_rfl) (by kernel_rfl) (by kernel_rfl) (fun _ _ _ h => h) (Or.inl ⟨by rfl, ?_⟩) hHeld ?_
  rotate_left
  · intro wq hSw; go_simp; (try with_reducible rfl)
  simp only [Act.put, List.getElem_toArray, List.getElem_cons_succ, List.getElem_cons_zero, List.setIfInBounds_toArray, List.set_cons_zero, List.set_cons_succ]
  refine wpAnyH_take (i := 14) (v := ?_) rfl (by kernel_rfl) (by kernel_rfl) (by kernel_rfl) (fun _ _ _ h => h) (Or.inl ⟨by rfl, ?_⟩) hHeld ?_
  rotate_left
  · intro wq hSw; have hq := (yf4.up hSw).cell 0; simp only [List.getElem?_toArray, List.getElem?_cons_succ, List.getElem?_cons_zero] at hq; go_simp; (try with_reducible rfl)
  simp only [Act.put, List.getElem_toArray, List.getElem_cons_succ, List.getElem_cons_zero, List.setIfInBounds_toArray, List.set_cons_zero, List.set_cons_succ]
  refine wpAnyH_take (i := 15) (v := .bool false) rfl (by kernel_rfl) (by kernel_rfl) (by kernel_rfl) (fun _ _ _ h => h) (Or.inl ⟨by rfl, ?_⟩) hHeld ?_
  · intro wq hSw; go_simp; (try (first | (with_reducible rfl) | rfl | exact hew | (intro hcon; exfalso; (first | omega | (rw [hcon] at l1; simp at l1; done))) | (simp [*]; done) | (simp [*]; omega)))
  simp only [Act.put, List.getElem_toArray, List.getElem_cons_succ, List.getElem_cons_zero, List.setIfInBounds_toArray, List.set_cons_zero, List.set_cons_succ]
  refine wpAnyH_take (i := 16) (v := .bool false) rfl (by kernel_rfl) (by kernel_rfl) (by kernel_rfl) (fun _ _ _ h => h) (Or.inl ⟨by rfl, ?_⟩) hHeld ?_
  · intro wq hSw; go_simp; (try (first | (with_reducible rfl) | rfl | exact hew | (intro hcon; exfalso; (first | omega | (rw [hcon] at l1; simp at l1; done))) | (simp [*]; done) | (simp [*]; omega)))
  simp only [Act.put, List.getElem_toArray, List.getElem_cons_succ, List.getElem_cons_zero, List.setIfInBounds_toArray, List.set_cons_zero, List.set_cons_succ]
  refine wpAnyH_take (i := 17) (v := ?_) rfl (by kernel_rfl) (by kernel_rfl) (by kernel_rfl) (fun _ _ _ h => h) (Or.inl ⟨by rfl, ?_⟩) hHeld ?_
  rotate_left
  · intro wq hSw; go_simp; (try with_reducible rfl)
  simp only [Act.put, List.getElem_toArray, List.getElem_cons_succ, List.getElem_cons_zero, List.setIfInBounds_toArray, List.set_cons_zero, List.set_cons_succ]
  refine wpAnyH_take (i := 18) (v := ?_) rfl (by kernel_rfl) (by kernel_rfl) (by kernel_rfl) (fun _ _ _ h => h) (Or.inl ⟨by rfl, ?_⟩) hHeld ?_
  rotate_left
  · intro wq hSw; go_simp; (try with_reducible rfl)
  simp only [Act.put, List.getElem_toArray, List.getElem_cons_succ, List.getElem_cons_zero, List.setIfInBounds_toArray, List.set_cons_zero, List.set_cons_succ]
  refine wpAnyH_take (i := 19) (v := .int .u8 (cl : Nat)) rfl (by kernel_rfl) (by kernel_rfl) (by kernel_rfl) (fun _ _ _ h => h) (Or.inl ⟨by rfl, ?_⟩) hHeld ?_
  · intro wq hSw; go_simp; (try (first | (with_reducible rfl) | rfl | exact hew | (intro hcon; exfalso; (first | omega | (rw [hcon] at l1; simp at l1; done))) | (simp [*]; done) | (simp [*]; omega)))
  simp only [Act.put, List.getElem_toArray, List.getElem_cons_succ, List.getElem_cons_zero, List.setIfInBounds_toArray, List.set_cons_zero, List.set_cons_succ]
  refine wpAnyH_take (i := 20) (v := ?_) rfl (by kernel_rfl) (by kernel_rfl) (by kernel_rfl) (fun _ _ _ h => h) (Or.inl ⟨by rfl, ?_⟩) hHeld ?_
  rotate_left
  · intro wq hSw; go_simp; (try with_reducible rfl)
  simp only [Act.put, List.getElem_toArray, List.getElem_cons_succ, List.getElem_cons_zero, List.setIfInBounds_toArray, List.set_cons_zero, List.set_cons_succ]
  refine wpAnyH_take (i := 21) (v := ?_) rfl (by kernel_rfl) (by kernel_rfl) (by kernel_rfl) (fun _ _ _ h => h) (Or.inl ⟨by rfl, ?_⟩) hHeld ?_
  rotate_left
  · intro wq hSw; have hq := (yf4.up hSw).cell 1; simp only [List.getElem?_toArray, List.getElem?_cons_succ, List.getElem?_cons_zero] at hq; go_simp; (try with_reducible rfl)
  simp only [Act.put, List.getElem_toArray, List.getElem_cons_succ, List.getElem_cons_zero, List.setIfInBounds_toArray, List.set_cons_zero, List.set_cons_succ]
  refine wpAnyH_take (i := 22) (v := .bool false) rfl (by kernel_rfl) (by kernel_rfl) (by kernel_rfl) (fun _ _ _ h => h) (Or.inl ⟨by rfl, ?_⟩) hHeld ?_
  · intro wq hSw; go_simp; (try (first | (with_reducible rfl) | rfl | exact hew | (intro hcon; exfalso; (first | omega | (rw [hcon] at l1; simp at l1; done))) | (simp [*]; done) | (simp [*]; omega)))
  simp only [Act.put, List.getElem_toArray, List.getElem_cons_succ, List.getElem_cons_zero, List.setIfInBounds_toArray, List.set_cons_zero, List.set_cons_succ]
  refine wpAnyH_take (i := 23) (v := .bool false) rfl (by kernel_rfl) (by kernel_rfl) (by kernel_rfl) (fun _ _ _ h => h) (Or.inl ⟨by rfl, ?_⟩) hHeld ?_
  · intro wq hSw; go_simp; (try (first | (with_reducible rfl) | rfl | exact hew | (intro hcon; exfalso; (first | omega | (rw [hcon] at l1; simp at l1; done))) | (simp [*]; done) | (simp [*]; omega)))
  simp only [Act.put, List.getElem_toArray, List.getElem_cons_succ, List.getElem_cons_zero, List.setIfInBounds_toArray, List.set_cons_zero, List.set_cons_succ]
  refine wpAnyH_take (i := 24) (v := ?_) rfl (by kernel_rfl) (by kernel_rfl) (by kernel_rfl) (fun _ _ _ h => h) (Or.inl ⟨by rfl, ?_⟩) hHeld ?_
  rotate_left
  · intro wq hSw; go_simp; (try with_reducible rfl)
  simp only [Act.put, List.getElem_toArray, List.getElem_cons_succ, List.getElem_cons_zero, List.setIfInBounds_toArray, List.set_cons_zero, List.set_cons_succ]
  refine wpAnyH_take (i := 25) (v := ?_) rfl (by kernel_rfl) (by kernel_rfl) (by kernel_rfl) (fun _ _ _ h => h) (Or.inl ⟨by rfl, ?_⟩) hHeld ?_
  rotate_left
  · intro wq hSw; go_simp; (try with_reducible rfl)
  simp only [Act.put, List.getElem_toArray, List.getElem_cons_succ, List.getElem_cons_zero, List.setIfInBounds_toArray, List.set_cons_zero, List.set_cons_succ]
  refine wpAnyH_take (i := 26) (v := .bool false) rfl (by kernel_rfl) (by kernel_rfl) (by kernel_rfl) (fun _ _ _ h => h) (Or.inl ⟨by rfl, ?_⟩) hHeld ?_
  · intro wq hSw; go_simp; (try (first | (with_reducible rfl) | rfl | exact hew | (intro hcon; exfalso; (first | omega | (rw [hcon] at l1; simp at l1; done))) | (simp [*]; done) | (simp [*]; omega)))
  simp only [Act.put, List.getElem_toArray, List.getElem_cons_succ, List.getElem_cons_zero, List.setIfInBounds_toArray, List.set_cons_zero, List.set_cons_succ]
  refine wpAnyH_take (i := 27) (v := ?_) rfl (by kernel_rfl) (by kernel_rfl) (by kernel_rfl) (fun _ _ _ h => h) (Or.inl ⟨by rfl, ?_⟩) hHeld ?_
  rotate_left
  · intro wq hSw; go_simp; (try with_reducible rfl)
  simp only [Act.put, List.getElem_toArray, List.getElem_cons_succ, List.getElem_cons_zero, List.setIfInBounds_toArray, List.set_cons_zero, List.set_cons_succ]
  refine wpAnyH_take (i := 28) (v := undef) rfl (by kernel_rfl) (by kernel_rfl) (by kernel_rfl) (fun _ _ _ h => h) (Or.inr ⟨by rfl, rfl⟩) hHeld ?_
  simp only [Act.put, List.getElem_toArray, List.getElem_cons_succ, List.getElem_cons_zero, List.setIfInBounds_toArray, List.set_cons_zero, List.set_cons_succ]
  refine wpAnyH_take (i := 29) (v := undef) rfl (by kernel_rfl) (by kernel_rfl) (by kernel_rfl) (fun _ _ _ h => h) (Or.inr ⟨by rfl, rfl⟩) hHeld ?_
  simp only [Act.put, List.getElem_toArray, List.getElem_cons_succ, List.getElem_cons_zero, List.setIfInBounds_toArray, List.set_cons_zero, List.set_cons_succ]
  refine wpAnyH_take (i := 30) (v := undef) rfl (by kernel_rfl) (by kernel_rfl) (by kernel_rfl) (fun _ _ _ h => h) (Or.inr ⟨by rfl, rfl⟩) hHeld ?_
  simp only [Act.put, List.getElem_toArray, List.getElem_cons_succ, List.getElem_cons_zero, List.setIfInBounds_toArray, List.set_cons_zero, List.set_cons_succ]
  refine wpAnyH_take (i := 31) (v := .bool false) rfl (by kernel_rfl) (by kernel_rfl) (by kernel_rfl) (fun _ _ _ h => h) (Or.inl ⟨by rfl, ?_⟩) hHeld ?_
  · intro wq hSw; go_simp; (try (first | (with_reducible rfl) | rfl | exact hew | (intro hcon; exfalso; (first | omega | (rw [hcon] at l1; simp at l1; done))) | (simp [*]; done) | (simp [*]; omega)))
  simp only [Act.put, List.getElem_toArray, List.getElem_cons_succ, List.getElem_cons_zero, List.setIfInBounds_toArray, List.set_cons_zero, List.set_cons_succ]
  refine wpAnyH_take (i := 32) (v := .bool false) rfl (by kernel_rfl) (by kernel_rfl) (by kernel_rfl) (fun _ _ _ h => h) (Or.inl ⟨by rfl, ?_⟩) hHeld ?_
  · intro wq hSw; go_simp; (try (first | (with_reducible rfl) | rfl | exact hew | (intro hcon; exfalso; (first | omega | (rw [hcon] at l1; simp at l1; done))) | (simp [*]; done) | (simp [*]; omega)))
  simp only [Act.put, List.getElem_toArray, List.getElem_cons_succ, List.getElem_cons_zero, List.setIfInBounds_toArray, List.set_cons_zero, List.set_cons_succ]
  refine wpAnyH_take (i := 33) (v := ?_) rfl (by kernel_rfl) (by kernel_rfl) (by kernel_rfl) (fun _ _ _ h => h) (Or.inl ⟨by rfl, ?_⟩) hHeld ?_
  rotate_left
  · intro wq hSw; go_simp; (try with_reducible rfl)
  simp only [Act.put, List.getElem_toArray, List.getElem_cons_succ, List.getElem_cons_zero, List.setIfInBounds_toArray, List.set_cons_zero, List.set_cons_succ]
  refine wpAnyH_take (i := 34) (v := ?_) rfl (by kernel_rfl) (by kernel_rfl) (by kernel_rfl) (fun _ _ _ h => h) (Or.inl ⟨by rfl, ?_⟩) hHeld ?_
  rotate_left
  · intro wq hSw; go_simp; (try with_reducible rfl)
  simp only [Act.put, List.getElem_toArray, List.getElem_cons_succ, List.getElem_cons_zero, List.setIfInBounds_toArray, List.set_cons_zero, List.set_cons_succ]
  refine wpAnyH_take (i := 35) (v := ?_) rfl (by kernel_rfl) (by kernel_rfl) (by kernel_rfl) (fun _ _ _ h => h) (Or.inl ⟨by rfl, ?_⟩) hHeld ?_
  rotate_left
  · intro wq hSw; have hq := (yf4.up hSw).cell 0; simp only [List.getElem?_toArray, List.getElem?_cons_succ, List.getElem?_cons_zero] at hq; go_simp; (try with_reducible rfl)
  simp only [Act.put, List.getElem_toArray, List.getElem_cons_succ, List.getElem_cons_zero, List.setIfInBounds_toArray, List.set_cons_zero, List.set_cons_succ]
  refine wpAnyH_take (i := 36) (v := .bool true) rfl (by kernel_rfl) (by kernel_rfl) (by kernel_rfl) (fun _ _ _ h => h) (Or.inl ⟨by rfl, ?_⟩) hHeld ?_
  · intro wq hSw; go_simp; (try (first | (with_reducible rfl) | rfl | exact hew | (intro hcon; exfalso; (first | omega | (rw [hcon] at l1; simp at l1; done))) | (simp [*]; done) | (simp [*]; omega)))
  simp only [Act.put, List.getElem_toArray, List.getElem_cons_succ, List.getElem_cons_zero, List.setIfInBounds_toArray, List.set_cons_zero, List.set_cons_succ]
  refine wpAnyH_take (i := 37) (v := ?_) rfl (by kernel_rfl) (by kernel_rfl) (by kernel_rfl) (fun _ _ _ h => h) (Or.inl ⟨by rfl, ?_⟩) hHeld ?_
  rotate_left
  · intro wq hSw; go_simp; (try with_reducible rfl)
  simp only [Act.put, List.getElem_toArray, List.getElem_cons_succ, List.getElem_cons_zero, List.setIfInBounds_toArray, List.set_cons_zero, List.set_cons_succ]
  refine wpAnyH_take (i := 38) (v := ?_) rfl (by kernel_rfl) (by kernel_rfl) (by kernel_rfl) (fun _ _ _ h => h) (Or.inl ⟨by rfl, ?_⟩) hHeld ?_
  rotate_left
  · intro wq hSw; go_simp; (try with_reducible rfl)
  simp only [Act.put, List.getElem_toArray, List.getElem_cons_succ, List.getElem_cons_zero, List.setIfInBounds_toArray, List.set_cons_zero, List.set_cons_succ]
  refine wpAnyH_take (i := 39) (v := ?_) rfl (by kernel_rfl) (by kernel_rfl) (by kernel_rfl) (fun _ _ _ h => h) (Or.inl ⟨by rfl, ?_⟩) hHeld ?_
  rotate_left
  · intro wq hSw; have hq := (yf4.up hSw).cell 0; simp only [List.getElem?_toArray, List.getElem?_cons_succ, List.getElem?_cons_zero] at hq; go_simp; (try with_reducible rfl)
  simp only [Act.put, List.getElem_toArray, List.getElem_cons_succ, List.getElem_cons_zero, List.setIfInBounds_toArray, List.set_cons_zero, List.set_cons_succ]
  refine wpAnyH_take (i := 40) (v := .bool true) rfl (by kernel_rfl) (by kernel_rfl) (by kernel_rfl) (fun _ _ _ h => h) (Or.inl ⟨by rfl, ?_⟩) hHeld ?_
  · intro wq hSw; go_simp; (try (first | (with_reducible rfl) | rfl | exact hew | (intro hcon; exfalso; (first | omega | (rw [hcon] at l1; simp at l1; done))) | (simp [*]; done) | (simp [*]; omega)))
  simp only [Act.put, List.getElem_toArray, List.getElem_cons_succ, List.getElem_cons_zero, List.setIfInBounds_toArray, List.set_cons_zero, List.set_cons_succ]
  refine wpAnyH_take (i := 41) (v := .bool true) rfl (by kernel_rfl) (by kernel_rfl) (by kernel_rfl) (fun _ _ _ h => h) (Or.inl ⟨by rfl, ?_⟩) hHeld ?_
  · intro wq hSw; go_simp; (try (first | (with_reducible rfl) | rfl | exact hew | (intro hcon; exfalso; (first | omega | (rw [hcon] at l1; simp at l1; done))) | (simp [*]; done) | (simp [*]; omega)))
  simp only [Act.put, List.getElem_toArray, List.getElem_cons_succ, List.getElem_cons_zero, List.setIfInBounds_toArray, List.set_cons_zero, List.set_cons_succ]
  refine wpAnyH_take (i := 42) (v := ?_) rfl (by kernel_rfl) (by kernel_rfl) (by kernel_rfl) (fun _ _ _ h => h) (Or.inl ⟨by rfl, ?_⟩) hHeld ?_
  rotate_left
  · intro wq hSw; go_simp; (try with_reducible rfl)
  simp only [Act.put, List.getElem_toArray, List.getElem_cons_succ, List.getElem_cons_zero, List.setIfInBounds_toArray, List.set_cons_zero, List.set_cons_succ]
  refine wpAnyH_take (i := 43) (v := ?_) rfl (by kernel_rfl) (by kernel_rfl) (by kernel_rfl) (fun _ _ _ h => h) (Or.inl ⟨by rfl, ?_⟩) hHeld ?_
  rotate_left
  · intro wq hSw; go_simp; (try with_reducible rfl)
  simp only [Act.put, List.getElem_toArray, List.getElem_cons_succ, List.getElem_cons_zero, List.setIfInBounds_toArray, List.set_cons_zero, List.set_cons_succ]
  refine wpAnyH_take (i := 44) (v := ?_) rfl (by kernel_rfl) (by kernel_rfl) (by kernel_rfl) (fun _ _ _ h => h) (Or.inl ⟨by rfl, ?_⟩) hHeld ?_
  rotate_left
  · intro wq hSw; go_simp; (try with_reducible rfl)
  simp only [Act.put, List.getElem_toArray, List.getElem_cons_succ, List.getElem_cons_zero, List.setIfInBounds_toArray, List.set_cons_zero, List.set_cons_succ]
  refine wpAnyH_take (i := 45) (v := .bool false) rfl (by kernel_rfl) (by kernel_rfl) (by kernel_rfl) (fun _ _ _ h => h) (Or.inl ⟨by rfl, ?_⟩) hHeld ?_
  · intro wq hSw; go_simp; (try (first | (with_reducible rfl) | rfl | exact hew | (intro hcon; exfalso; (first | omega | (rw [hcon] at l1; simp at l1; done))) | (simp [*]; done) | (simp [*]; omega)))
  simp only [Act.put, List.getElem_toArray, List.getElem_cons_succ, List.getElem_cons_zero, List.setIfInBounds_toArray, List.set_cons_zero, List.set_cons_succ]
  refine wpAnyH_take (i := 46) (v := .bool false) rfl (by kernel_rfl) (by kernel_rfl) (by kernel_rfl) (fun _ _ _ h => h) (Or.inl ⟨by rfl, ?_⟩) hHeld ?_
  · intro wq hSw; go_simp; (try (first | (with_reducible rfl) | rfl | exact hew | (intro hcon; exfalso; (first | omega | (rw [hcon] at l1; simp at l1; done))) | (simp [*]; done) | (simp [*]; omega)))
  simp only [Act.put, List.getElem_toArray, List.getElem_cons_succ, List.getElem_cons_zero, List.setIfInBounds_toArray, List.set_cons_zero, List.set_cons_succ]
  refine wpAnyH_take (i := 47) (v := .bool false) rfl (by kernel_rfl) (by kernel_rfl) (by kernel_rfl) (fun _ _ _ h => h) (Or.inl ⟨by rfl, ?_⟩) hHeld ?_
  · intro wq hSw; go_simp; (try (first | (with_reducible rfl) | rfl | exact hew | (intro hcon; exfalso; (first | omega | (rw [hcon] at l1; simp at l1; done))) | (simp [*]; done) | (simp [*]; omega)))
  simp only [Act.put, List.getElem_toArray, List.getElem_cons_succ, List.getElem_cons_zero, List.setIfInBounds_toArray, List.set_cons_zero, List.set_cons_succ]
  refine wpAnyH_done (by kernel_rfl) ?_ _
  rename_i K1 hK1 K0 hK0
  show K0 _ _
  refine hK0 _ _ ?_
  refine wp_cond_false (by rfl) (wp_skip ?_)
  show K1 _ _
  refine hK1 _ _ ?_
  exact (short_tail q z t w _ x4.heap.size op cl nu e a r v p rc vc pc _ _ _ _ _ _ _ _ _ _ _ _ _ _ _ _ _ _ _ _ _ _ _ _ _ _ _ _ _ _ _ _ _ _ _ _ _ _ _ _ _ _ _ _ _ _ _ _ _ _ _ _ _ _ _ _ _ _ _ _ _ _ _ _ _ _ _ _ _ _ _ _ _ _ _ _ _ _ _ _ _ _ _ _ _ _ _ _ _ _ _ _ _ _ _ _ _ _ _ _ _ _ _ _ _ _ _ _ _ _ _ _ _ _ _ _ _ _ _ _ _ _ _ _ _ _ _ _ _ _ _ _ _ _ _ _ _ _ _ _ _ hql hz hl hu Hk.out Hh.out yf4.drew zf4.drew hd4.drew)

set_option maxRecDepth 1000000 in
set_option maxHeartbeats 16000000 in
theorem short_12 (q : List UInt8) (z : Nat) (t : List UInt8) (w : World) (u3 u4 u5 u6 u7 u8 u9 u10 u11 u12 u13 u14 u15 u16 u17 u18 u19 u20 u21 u22 u23 u24 u25 u26 u27 u28 u29 u30 u31 u32 u33 u34 u35 u36 u37 u38 u39 u40 u41 u42 u43 u44 u45 u46 u47 u48 u49 u50 u51 u52 u53 u54 u55 u56 u57 u58 u59 u60 u61 u62 u63 u64 u65 u66 u67 u68 u69 u70 u71 u72 u73 u74 u75 u76 u77 u78 u79 u80 u81 u82 u83 u84 u85 u86 u87 u88 u89 u90 u91 u92 u93 u94 u95 u96 u97 u98 u99 u100 u101 u102 u103 u104 u105 u106 u107 u108 u109 u110 u111 u112 u113 u114 u115 u116 u117 u118 u119 u120 u121 u122 u123 u124 u125 u126 u127 u128 u129 u130 u131 u132 u133 u134 u135 u136 u137 u138 u139 u140 u141 u142 u143 u144 u145 : Value) (hql : q.length ≤ 2000) (hz : z < 65536) (hl : t.length ≤ 100) (hu : UsesOk w) (hk : P.hearOk q = true) (op cl nu e : Nat) (a : P.An) (hh : P.Heard q op cl nu a e) (he : e = 0) (ho : 9 < op) :
    Code.wp Tryd.prog restS5 (bodyPost Tryd.prog Tryd.f8 fun e' w' => e' = .returned (.bool true) ∧ Below w.heap.size w w') ⟨#[S q, .int .u16 (z : Int), S t, u3, u4, u5, u6, u7, u8, u9, u10, u11, u12, u13, u14, u15, u16, u17, u18, u19, u20, u21, u22, u23, u24, u25, u26, u27, u28, u29, u30, u31, u32, u33, u34, u35, u36, u37, u38, u39, u40, u41, u42, u43, u44, u45, u46, u47, u48, u49, u50, u51, u52, u53, u54, u55, u56, u57, u58, u59, u60, u61, u62, u63, u64, u65, u66, u67, u68, u69, u70, u71, u72, u73, u74, u75, u76, u77, u78, u79, u80, u81, u82, u83, u84, u85, u86, u87, u88, u89, u90, u91, u92, u93, u94, u95, u96, u97, u98, u99, u100, u101, u102, u103, u104, u105, u106, u107, u108, u109, u110, u111, u112, u113, u114, u115, u116, u117, u118, u119, u120, u121, u122, u123, u124, u125, u126, u127, u128, u129, u130, u131, u132, u133, u134, u135, u136, u137, u138, u139, u140, u141, u142, u143, u144, u145], []⟩ w := by
  conv => arg 2; whnf
  have hc0 := Below.refl w.heap.size w
  obtain ⟨l1, l2, l3⟩ := hh.len
  have HY := Lib.hid (fun wx => hear_yes (by omega) hh hk wx)
  have hb0 : ((ByteArray.mk q.toArray)[0]'(by show 0 < q.toArray.size; simp; omega)).toNat = e := by obtain ⟨r, hr⟩ := hh.cons; subst hr; show (P.byt e).toNat = e; rw [P.byt_toNat]; have := hh.lt; omega
  have hb1 : ((ByteArray.mk q.toArray)[1]'(by show 1 < q.toArray.size; simp; omega)).toNat = op := by obtain ⟨r, hr⟩ := hh.cons; subst hr; show (P.byt op).toNat = op; rw [P.byt_toNat]; have := hh.op'; omega
  have hb2 : ((ByteArray.mk q.toArray)[2]'(by show 2 < q.toArray.size; simp; omega)).toNat = cl := by obtain ⟨r, hr⟩ := hh.cons; subst hr; show (P.byt cl).toNat = cl; rw [P.byt_toNat]; have := hh.cl'; omega
  have hew : IntKind.u8.wrap (e : Int) = (e : Int) := by
    have := hh.lt
    unfold IntKind.wrap
    simp [IntKind.signed, IntKind.bits]
    omega
  have hem : (e : Int) % 256 = (e : Int) := by have := hh.lt; omega
  have h11 : ¬ (q.length : Int) < (11 : Int) := by omega
  have he0 : ((e : Int) != 0) = false := by simp [he]
  have ho1 : decide ((1 : Int) ≤ (op : Int)) = true := decide_eq_true (by omega)
  have ho9 : decide ((op : Int) ≤ 9) = false := decide_eq_false (by omega)
  have Hh := Lib.hid hh
  have Hk := Lib.hid hk
  clear l2 l3 hh hk ho he
  go_upto_region 8 with (first
    | (go_at_call 23; (with_reducible refine (HY.out _).mono ?_); rintro e' x4 ⟨r, rc, v, vc, p, pc, rfl, hb4⟩; have hc4 := Chain.up hc0 hb4; obtain ⟨y4, z4, hB4⟩ := two_bx x4 #[.int .u8 0, .int .u8 0, .int .u64 0, .int .u8 0, .int .u64 0, .int .u64 0, .int .i64 0, .int .u8 0, .int .u64 0, .int .u64 0, .string ⟨#[]⟩, .string ⟨#[]⟩, .int .u64 0, .int .u64 0, .int .i64 0] #[.int .u8 0, .int .u64 0, .int .u64 0, .string ⟨#[]⟩, .int .u64 0, .int .u8 0, .int .u64 0, .int .u64 0, .int .i64 0, .bool false, .bool false, .bool false, .int .u64 0, .slice none 0 0, .slice none 0 0, .slice none 0 0] 28 36)
    | (refine wpList_stB (by rfl) _ _ _ (by rfl) y4 _ _ (by rfl) (by rfl) 15 15 (by rfl) (by rfl) (by decide) infoCall (by rfl) (by rfl) ?_; intro w3 hz' hsw3; have yy4 : Bx w3 x4.heap.size 28 #[.int .u8 (op : Nat), .int .u8 (cl : Nat), V64 nu, .int .u8 0, .int .u64 0, .int .u64 0, .int .i64 0, .int .u8 0, .int .u64 0, .int .u64 0, .string ⟨#[]⟩, .string ⟨#[]⟩, .int .u64 0, .int .u64 0, .int .i64 0] := hz'; clear hz'; have zz4 := z4.but hsw3 (by omega); skip)
    | (refine wpList_stB (by rfl) _ _ _ (by rfl) zz4 _ _ (by rfl) (by rfl) 16 16 (by rfl) (by rfl) (by decide) infoAns (by rfl) (by rfl) ?_; intro w4 hz' hsw4; have zf4 : Bx w4 (x4.heap.size + 1) 36 #[.int .u8 (a.a.fam : Nat), V64 a.a.hi, V64 a.a.lo, S a.owner, V64 a.til, .int .u8 (a.pool.a.fam : Nat), V64 a.pool.a.hi, V64 a.pool.a.lo, .int .i64 a.pool.bits, .bool a.has, .bool a.held, .bool a.live, V64 a.clock, .slice r a.rows.length rc, .slice v a.events.length vc, .slice p a.pools.length pc] := hz'; clear hz'; have yf4 := yy4.but hsw4 (by omega); have hd4 := Chain.up hc4 ((hB4.trans (hsw3.below (Nat.le_refl _) hB4.size)).trans (hsw4.below (Nat.le_succ _) (by have := hB4.size; have := hsw3.size; omega))); skip))
  refine wp_region_held_drew (S := fun wx => Below w4.heap.size w4 wx) (by kernel_rfl) (Below.refl _ _).drew (fun hHeld => ?_)
  refine wpAnyH_take (i := 0) (v := ?_) rfl (by kernel_rfl) (by kernel_rfl) (by kernel_rfl) (fun _ _ _ h => h) (Or.inl ⟨by rfl, ?_⟩) hHeld ?_
  rotate_left
  · intro wq hSw; go_simp; (try with_reducible rfl)
  simp only [Act.put, List.getElem_toArray, List.getElem_cons_succ, List.getElem_cons_zero, List.setIfInBounds_toArray, List.set_cons_zero, List.set_cons_succ]
  refine wpAnyH_take (i := 1) (v := ?_) rfl (by kernel_rfl) (by kernel_rfl) (by kernel_rfl) (fun _ _ _ h => h) (Or.inl ⟨by rfl, ?_⟩) hHeld ?_
  rotate_left
  · intro wq hSw; go_simp; (try with_reducible rfl)
  simp only [Act.put, List.getElem_toArray, List.getElem_cons_succ, List.getElem_cons_zero, List.setIfInBounds_toArray, List.set_cons_zero, List.set_cons_succ]
  refine wpAnyH_take (i := 2) (v := .bool false) rfl (by kernel_rfl) (by kernel_rfl) (by kernel_rfl) (fun _ _ _ h => h) (Or.inl ⟨by rfl, ?_⟩) hHeld ?_
  · intro wq hSw; go_simp; (try (first | (with_reducible rfl) | rfl | exact hew | (intro hcon; exfalso; (first | omega | (rw [hcon] at l1; simp at l1; done))) | (simp [*]; done) | (simp [*]; omega)))
  simp only [Act.put, List.getElem_toArray, List.getElem_cons_succ, List.getElem_cons_zero, List.setIfInBounds_toArray, List.set_cons_zero, List.set_cons_succ]
  refine wpAnyH_take (i := 3) (v := ?_) rfl (by kernel_rfl) (by kernel_rfl) (by kernel_rfl) (fun _ _ _ h => h) (Or.inl ⟨by rfl, ?_⟩) hHeld ?_
  rotate_left
  · intro wq hSw; go_simp; (try with_reducible rfl)
  simp only [Act.put, List.getElem_toArray, List.getElem_cons_succ, List.getElem_cons_zero, List.setIfInBounds_toArray, List.set_cons_zero, List.set_cons_succ]
  refine wpAnyH_take (i := 4) (v := ?_) rfl (by kernel_rfl) (by kernel_rfl) (by kernel_rfl) (fun _ _ _ h => h) (Or.inl ⟨by rfl, ?_⟩) hHeld ?_
  rotate_left
  · intro wq hSw; go_simp; (try with_reducible rfl)
  simp only [Act.put, List.getElem_toArray, List.getElem_cons_succ, List.getElem_cons_zero, List.setIfInBounds_toArray, List.set_cons_zero, List.set_cons_succ]
  refine wpAnyH_take (i := 5) (v := .int .u8 (e : Nat)) rfl (by kernel_rfl) (by kernel_rfl) (by kernel_rfl) (fun _ _ _ h => h) (Or.inl ⟨by rfl, ?_⟩) hHeld ?_
  · intro wq hSw; go_simp; (try (first | (with_reducible rfl) | rfl | exact hew | (intro hcon; exfalso; (first | omega | (rw [hcon] at l1; simp at l1; done))) | (simp [*]; done) | (simp [*]; omega)))
  simp only [Act.put, List.getElem_toArray, List.getElem_cons_succ, List.getElem_cons_zero, List.setIfInBounds_toArray, List.set_cons_zero, List.set_cons_succ]
  refine wpAnyH_take (i := 6) (v := ?_) rfl (by kernel_rfl) (by kernel_rfl) (by kernel_rfl) (fun _ _ _ h => h) (Or.inl ⟨by rfl, ?_⟩) hHeld ?_
  rotate_left
  · intro wq hSw; go_simp; (try with_reducible rfl)
  simp only [Act.put, List.getElem_toArray, List.getElem_cons_succ, List.getElem_cons_zero, List.setIfInBounds_toArray, List.set_cons_zero, List.set_cons_succ]
  refine wpAnyH_take (i := 7) (v := .int .u8 (e : Nat)) rfl (by kernel_rfl) (by kernel_rfl) (by kernel_rfl) (fun _ _ _ h => h) (Or.inl ⟨by rfl, ?_⟩) hHeld ?_
  · intro wq hSw; go_simp; (try (first | (with_reducible rfl) | rfl | exact hew | (intro hcon; exfalso; (first | omega | (rw [hcon] at l1; simp at l1; done))) | (simp [*]; done) | (simp [*]; omega)))
  simp only [Act.put, List.getElem_toArray, List.getElem_cons_succ, List.getElem_cons_zero, List.setIfInBounds_toArray, List.set_cons_zero, List.set_cons_succ]
  refine wpAnyH_take (i := 8) (v := .bool false) rfl (by kernel_rfl) (by kernel_rfl) (by kernel_rfl) (fun _ _ _ h => h) (Or.inl ⟨by rfl, ?_⟩) hHeld ?_
  · intro wq hSw; go_simp; (try (first | (with_reducible rfl) | rfl | exact hew | (intro hcon; exfalso; (first | omega | (rw [hcon] at l1; simp at l1; done))) | (simp [*]; done) | (simp [*]; omega)))
  simp only [Act.put, List.getElem_toArray, List.getElem_cons_succ, List.getElem_cons_zero, List.setIfInBounds_toArray, List.set_cons_zero, List.set_cons_succ]
  refine wpAnyH_take (i := 9) (v := .bool false) rfl (by kernel_rfl) (by kernel_rfl) (by kernel_rfl) (fun _ _ _ h => h) (Or.inl ⟨by rfl, ?_⟩) hHeld ?_
  · intro wq hSw; go_simp; (try (first | (with_reducible rfl) | rfl | exact hew | (intro hcon; exfalso; (first | omega | (rw [hcon] at l1; simp at l1; done))) | (simp [*]; done) | (simp [*]; omega)))
  simp only [Act.put, List.getElem_toArray, List.getElem_cons_succ, List.getElem_cons_zero, List.setIfInBounds_toArray, List.set_cons_zero, List.set_cons_succ]
  refine wpAnyH_take (i := 10) (v := ?_) rfl (by kernel_rfl) (by kernel_rfl) (by kernel_rfl) (fun _ _ _ h => h) (Or.inl ⟨by rfl, ?_⟩) hHeld ?_
  rotate_left
  · intro wq hSw; go_simp; (try with_reducible rfl)
  simp only [Act.put, List.getElem_toArray, List.getElem_cons_succ, List.getElem_cons_zero, List.setIfInBounds_toArray, List.set_cons_zero, List.set_cons_succ]
  refine wpAnyH_take (i := 11) (v := ?_) rfl (by kernel_rfl) (by kernel_rfl) (by kernel_rfl) (fun _ _ _ h => h) (Or.inl ⟨by rfl, ?_⟩) hHeld ?_
  rotate_left
  · intro wq hSw; go_simp; (try with_reducible rfl)
  simp only [Act.put, List.getElem_toArray, List.getElem_cons_succ, List.getElem_cons_zero, List.setIfInBounds_toArray, List.set_cons_zero, List.set_cons_succ]
  refine wpAnyH_take (i := 12) (v := .int .u8 (op : Nat)) rfl (by kernel_rfl) (by kernel_rfl) (by kernel_rfl) (fun _ _ _ h => h) (Or.inl ⟨by rfl, ?_⟩) hHeld ?_
  · intro wq hSw; go_simp; (try (first | (with_reducible rfl) | rfl | exact hew | (intro hcon; exfalso; (first | omega | (rw [hcon] at l1; simp at l1; done))) | (simp [*]; done) | (simp [*]; omega)))
  simp only [Act.put, List.getElem_toArray, List.getElem_cons_succ, List.getElem_cons_zero, List.setIfInBounds_toArray, List.set_cons_zero, List.set_cons_succ]
  refine wpAnyH_take (i := 13) (v := ?_) rfl (by kernel_rfl) (by kernel_rfl) (by kernel_rfl) (fun _ _ _ h => h) (Or.inl ⟨by rfl, ?_⟩) hHeld ?_
  rotate_left
  · intro wq hSw; go_simp; (try with_reducible rfl)
  simp only [Act.put, List.getElem_toArray, List.getElem_cons_succ, List.getElem_cons_zero, List.setIfInBounds_toArray, List.set_cons_zero, List.set_cons_succ]
  refine wpAnyH_take (i := 14) (v := ?_) rfl (by kernel_rfl) (by kernel_rfl) (by kernel_rfl) (fun _ _ _ h => h) (Or.inl ⟨by rfl, ?_⟩) hHeld ?_
  rotate_left
  · intro wq hSw; have hq := (yf4.up hSw).cell 0; simp only [List.getElem?_toArray, List.getElem?_cons_succ, List.getElem?_cons_zero] at hq; go_simp; (try with_reducible rfl)
  simp only [Act.put, List.getElem_toArray, List.getElem_cons_succ, List.getElem_cons_zero, List.setIfInBounds_toArray, List.set_cons_zero, List.set_cons_succ]
  refine wpAnyH_take (i := 15) (v := .bool false) rfl (by kernel_rfl) (by kernel_rfl) (by kernel_rfl) (fun _ _ _ h => h) (Or.inl ⟨by rfl, ?_⟩) hHeld ?_
  · intro wq hSw; go_simp; (try (first | (with_reducible rfl) | rfl | exact hew | (intro hcon; exfalso; (first | omega | (rw [hcon] at l1; simp at l1; done))) | (simp [*]; done) | (simp [*]; omega)))
  simp only [Act.put, List.getElem_toArray, List.getElem_cons_succ, List.getElem_cons_zero, List.setIfInBounds_toArray, List.set_cons_zero, List.set_cons_succ]
  refine wpAnyH_take (i := 16) (v := .bool false) rfl (by kernel_rfl) (by kernel_rfl) (by kernel_rfl) (fun _ _ _ h => h) (Or.inl ⟨by rfl, ?_⟩) hHeld ?_
  · intro wq hSw; go_simp; (try (first | (with_reducible rfl) | rfl | exact hew | (intro hcon; exfalso; (first | omega | (rw [hcon] at l1; simp at l1; done))) | (simp [*]; done) | (simp [*]; omega)))
  simp only [Act.put, List.getElem_toArray, List.getElem_cons_succ, List.getElem_cons_zero, List.setIfInBounds_toArray, List.set_cons_zero, List.set_cons_succ]
  refine wpAnyH_take (i := 17) (v := ?_) rfl (by kernel_rfl) (by kernel_rfl) (by kernel_rfl) (fun _ _ _ h => h) (Or.inl ⟨by rfl, ?_⟩) hHeld ?_
  rotate_left
  · intro wq hSw; go_simp; (try with_reducible rfl)
  simp only [Act.put, List.getElem_toArray, List.getElem_cons_succ, List.getElem_cons_zero, List.setIfInBounds_toArray, List.set_cons_zero, List.set_cons_succ]
  refine wpAnyH_take (i := 18) (v := ?_) rfl (by kernel_rfl) (by kernel_rfl) (by kernel_rfl) (fun _ _ _ h => h) (Or.inl ⟨by rfl, ?_⟩) hHeld ?_
  rotate_left
  · intro wq hSw; go_simp; (try with_reducible rfl)
  simp only [Act.put, List.getElem_toArray, List.getElem_cons_succ, List.getElem_cons_zero, List.setIfInBounds_toArray, List.set_cons_zero, List.set_cons_succ]
  refine wpAnyH_take (i := 19) (v := .int .u8 (cl : Nat)) rfl (by kernel_rfl) (by kernel_rfl) (by kernel_rfl) (fun _ _ _ h => h) (Or.inl ⟨by rfl, ?_⟩) hHeld ?_
  · intro wq hSw; go_simp; (try (first | (with_reducible rfl) | rfl | exact hew | (intro hcon; exfalso; (first | omega | (rw [hcon] at l1; simp at l1; done))) | (simp [*]; done) | (simp [*]; omega)))
  simp only [Act.put, List.getElem_toArray, List.getElem_cons_succ, List.getElem_cons_zero, List.setIfInBounds_toArray, List.set_cons_zero, List.set_cons_succ]
  refine wpAnyH_take (i := 20) (v := ?_) rfl (by kernel_rfl) (by kernel_rfl) (by kernel_rfl) (fun _ _ _ h => h) (Or.inl ⟨by rfl, ?_⟩) hHeld ?_
  rotate_left
  · intro wq hSw; go_simp; (try with_reducible rfl)
  simp only [Act.put, List.getElem_toArray, List.getElem_cons_succ, List.getElem_cons_zero, List.setIfInBounds_toArray, List.set_cons_zero, List.set_cons_succ]
  refine wpAnyH_take (i := 21) (v := ?_) rfl (by kernel_rfl) (by kernel_rfl) (by kernel_rfl) (fun _ _ _ h => h) (Or.inl ⟨by rfl, ?_⟩) hHeld ?_
  rotate_left
  · intro wq hSw; have hq := (yf4.up hSw).cell 1; simp only [List.getElem?_toArray, List.getElem?_cons_succ, List.getElem?_cons_zero] at hq; go_simp; (try with_reducible rfl)
  simp only [Act.put, List.getElem_toArray, List.getElem_cons_succ, List.getElem_cons_zero, List.setIfInBounds_toArray, List.set_cons_zero, List.set_cons_succ]
  refine wpAnyH_take (i := 22) (v := .bool false) rfl (by kernel_rfl) (by kernel_rfl) (by kernel_rfl) (fun _ _ _ h => h) (Or.inl ⟨by rfl, ?_⟩) hHeld ?_
  · intro wq hSw; go_simp; (try (first | (with_reducible rfl) | rfl | exact hew | (intro hcon; exfalso; (first | omega | (rw [hcon] at l1; simp at l1; done))) | (simp [*]; done) | (simp [*]; omega)))
  simp only [Act.put, List.getElem_toArray, List.getElem_cons_succ, List.getElem_cons_zero, List.setIfInBounds_toArray, List.set_cons_zero, List.set_cons_succ]
  refine wpAnyH_take (i := 23) (v := .bool false) rfl (by kernel_rfl) (by kernel_rfl) (by kernel_rfl) (fun _ _ _ h => h) (Or.inl ⟨by rfl, ?_⟩) hHeld ?_
  · intro wq hSw; go_simp; (try (first | (with_reducible rfl) | rfl | exact hew | (intro hcon; exfalso; (first | omega | (rw [hcon] at l1; simp at l1; done))) | (simp [*]; done) | (simp [*]; omega)))
  simp only [Act.put, List.getElem_toArray, List.getElem_cons_succ, List.getElem_cons_zero, List.setIfInBounds_toArray, List.set_cons_zero, List.set_cons_succ]
  refine wpAnyH_take (i := 24) (v := ?_) rfl (by kernel_rfl) (by kernel_rfl) (by kernel_rfl) (fun _ _ _ h => h) (Or.inl ⟨by rfl, ?_⟩) hHeld ?_
  rotate_left
  · intro wq hSw; go_simp; (try with_reducible rfl)
  simp only [Act.put, List.getElem_toArray, List.getElem_cons_succ, List.getElem_cons_zero, List.setIfInBounds_toArray, List.set_cons_zero, List.set_cons_succ]
  refine wpAnyH_take (i := 25) (v := ?_) rfl (by kernel_rfl) (by kernel_rfl) (by kernel_rfl) (fun _ _ _ h => h) (Or.inl ⟨by rfl, ?_⟩) hHeld ?_
  rotate_left
  · intro wq hSw; go_simp; (try with_reducible rfl)
  simp only [Act.put, List.getElem_toArray, List.getElem_cons_succ, List.getElem_cons_zero, List.setIfInBounds_toArray, List.set_cons_zero, List.set_cons_succ]
  refine wpAnyH_take (i := 26) (v := .bool false) rfl (by kernel_rfl) (by kernel_rfl) (by kernel_rfl) (fun _ _ _ h => h) (Or.inl ⟨by rfl, ?_⟩) hHeld ?_
  · intro wq hSw; go_simp; (try (first | (with_reducible rfl) | rfl | exact hew | (intro hcon; exfalso; (first | omega | (rw [hcon] at l1; simp at l1; done))) | (simp [*]; done) | (simp [*]; omega)))
  simp only [Act.put, List.getElem_toArray, List.getElem_cons_succ, List.getElem_cons_zero, List.setIfInBounds_toArray, List.set_cons_zero, List.set_cons_succ]
  refine wpAnyH_take (i := 27) (v := ?_) rfl (by kernel_rfl) (by kernel_rfl) (by kernel_rfl) (fun _ _ _ h => h) (Or.inl ⟨by rfl, ?_⟩) hHeld ?_
  rotate_left
  · intro wq hSw; go_simp; (try with_reducible rfl)
  simp only [Act.put, List.getElem_toArray, List.getElem_cons_succ, List.getElem_cons_zero, List.setIfInBounds_toArray, List.set_cons_zero, List.set_cons_succ]
  refine wpAnyH_take (i := 28) (v := undef) rfl (by kernel_rfl) (by kernel_rfl) (by kernel_rfl) (fun _ _ _ h => h) (Or.inr ⟨by rfl, rfl⟩) hHeld ?_
  simp only [Act.put, List.getElem_toArray, List.getElem_cons_succ, List.getElem_cons_zero, List.setIfInBounds_toArray, List.set_cons_zero, List.set_cons_succ]
  refine wpAnyH_take (i := 29) (v := undef) rfl (by kernel_rfl) (by kernel_rfl) (by kernel_rfl) (fun _ _ _ h => h) (Or.inr ⟨by rfl, rfl⟩) hHeld ?_
  simp only [Act.put, List.getElem_toArray, List.getElem_cons_succ, List.getElem_cons_zero, List.setIfInBounds_toArray, List.set_cons_zero, List.set_cons_succ]
  refine wpAnyH_take (i := 30) (v := undef) rfl (by kernel_rfl) (by kernel_rfl) (by kernel_rfl) (fun _ _ _ h => h) (Or.inr ⟨by rfl, rfl⟩) hHeld ?_
  simp only [Act.put, List.getElem_toArray, List.getElem_cons_succ, List.getElem_cons_zero, List.setIfInBounds_toArray, List.set_cons_zero, List.set_cons_succ]
  refine wpAnyH_take (i := 31) (v := .bool false) rfl (by kernel_rfl) (by kernel_rfl) (by kernel_rfl) (fun _ _ _ h => h) (Or.inl ⟨by rfl, ?_⟩) hHeld ?_
  · intro wq hSw; go_simp; (try (first | (with_reducible rfl) | rfl | exact hew | (intro hcon; exfalso; (first | omega | (rw [hcon] at l1; simp at l1; done))) | (simp [*]; done) | (simp [*]; omega)))
  simp only [Act.put, List.getElem_toArray, List.getElem_cons_succ, List.getElem_cons_zero, List.setIfInBounds_toArray, List.set_cons_zero, List.set_cons_succ]
  refine wpAnyH_take (i := 32) (v := .bool false) rfl (by kernel_rfl) (by kernel_rfl) (by kernel_rfl) (fun _ _ _ h => h) (Or.inl ⟨by rfl, ?_⟩) hHeld ?_
  · intro wq hSw; go_simp; (try (first | (with_reducible rfl) | rfl | exact hew | (intro hcon; exfalso; (first | omega | (rw [hcon] at l1; simp at l1; done))) | (simp [*]; done) | (simp [*]; omega)))
  simp only [Act.put, List.getElem_toArray, List.getElem_cons_succ, List.getElem_cons_zero, List.setIfInBounds_toArray, List.set_cons_zero, List.set_cons_succ]
  refine wpAnyH_take (i := 33) (v := ?_) rfl (by kernel_rfl) (by kernel_rfl) (by kernel_rfl) (fun _ _ _ h => h) (Or.inl ⟨by rfl, ?_⟩) hHeld ?_
  rotate_left
  · intro wq hSw; go_simp; (try with_reducible rfl)
  simp only [Act.put, List.getElem_toArray, List.getElem_cons_succ, List.getElem_cons_zero, List.setIfInBounds_toArray, List.set_cons_zero, List.set_cons_succ]
  refine wpAnyH_take (i := 34) (v := ?_) rfl (by kernel_rfl) (by kernel_rfl) (by kernel_rfl) (fun _ _ _ h => h) (Or.inl ⟨by rfl, ?_⟩) hHeld ?_
  rotate_left
  · intro wq hSw; go_simp; (try with_reducible rfl)
  simp only [Act.put, List.getElem_toArray, List.getElem_cons_succ, List.getElem_cons_zero, List.setIfInBounds_toArray, List.set_cons_zero, List.set_cons_succ]
  refine wpAnyH_take (i := 35) (v := ?_) rfl (by kernel_rfl) (by kernel_rfl) (by kernel_rfl) (fun _ _ _ h => h) (Or.inl ⟨by rfl, ?_⟩) hHeld ?_
  rotate_left
  · intro wq hSw; have hq := (yf4.up hSw).cell 0; simp only [List.getElem?_toArray, List.getElem?_cons_succ, List.getElem?_cons_zero] at hq; go_simp; (try with_reducible rfl)
  simp only [Act.put, List.getElem_toArray, List.getElem_cons_succ, List.getElem_cons_zero, List.setIfInBounds_toArray, List.set_cons_zero, List.set_cons_succ]
  refine wpAnyH_take (i := 36) (v := .bool true) rfl (by kernel_rfl) (by kernel_rfl) (by kernel_rfl) (fun _ _ _ h => h) (Or.inl ⟨by rfl, ?_⟩) hHeld ?_
  · intro wq hSw; go_simp; (try (first | (with_reducible rfl) | rfl | exact hew | (intro hcon; exfalso; (first | omega | (rw [hcon] at l1; simp at l1; done))) | (simp [*]; done) | (simp [*]; omega)))
  simp only [Act.put, List.getElem_toArray, List.getElem_cons_succ, List.getElem_cons_zero, List.setIfInBounds_toArray, List.set_cons_zero, List.set_cons_succ]
  refine wpAnyH_take (i := 37) (v := ?_) rfl (by kernel_rfl) (by kernel_rfl) (by kernel_rfl) (fun _ _ _ h => h) (Or.inl ⟨by rfl, ?_⟩) hHeld ?_
  rotate_left
  · intro wq hSw; go_simp; (try with_reducible rfl)
  simp only [Act.put, List.getElem_toArray, List.getElem_cons_succ, List.getElem_cons_zero, List.setIfInBounds_toArray, List.set_cons_zero, List.set_cons_succ]
  refine wpAnyH_take (i := 38) (v := ?_) rfl (by kernel_rfl) (by kernel_rfl) (by kernel_rfl) (fun _ _ _ h => h) (Or.inl ⟨by rfl, ?_⟩) hHeld ?_
  rotate_left
  · intro wq hSw; go_simp; (try with_reducible rfl)
  simp only [Act.put, List.getElem_toArray, List.getElem_cons_succ, List.getElem_cons_zero, List.setIfInBounds_toArray, List.set_cons_zero, List.set_cons_succ]
  refine wpAnyH_take (i := 39) (v := ?_) rfl (by kernel_rfl) (by kernel_rfl) (by kernel_rfl) (fun _ _ _ h => h) (Or.inl ⟨by rfl, ?_⟩) hHeld ?_
  rotate_left
  · intro wq hSw; have hq := (yf4.up hSw).cell 0; simp only [List.getElem?_toArray, List.getElem?_cons_succ, List.getElem?_cons_zero] at hq; go_simp; (try with_reducible rfl)
  simp only [Act.put, List.getElem_toArray, List.getElem_cons_succ, List.getElem_cons_zero, List.setIfInBounds_toArray, List.set_cons_zero, List.set_cons_succ]
  refine wpAnyH_take (i := 40) (v := .bool false) rfl (by kernel_rfl) (by kernel_rfl) (by kernel_rfl) (fun _ _ _ h => h) (Or.inl ⟨by rfl, ?_⟩) hHeld ?_
  · intro wq hSw; go_simp; (try (first | (with_reducible rfl) | rfl | exact hew | (intro hcon; exfalso; (first | omega | (rw [hcon] at l1; simp at l1; done))) | (simp [*]; done) | (simp [*]; omega)))
  simp only [Act.put, List.getElem_toArray, List.getElem_cons_succ, List.getElem_cons_zero, List.setIfInBounds_toArray, List.set_cons_zero, List.set_cons_succ]
  refine wpAnyH_take (i := 41) (v := .bool false) rfl (by kernel_rfl) (by kernel_rfl) (by kernel_rfl) (fun _ _ _ h => h) (Or.inl ⟨by rfl, ?_⟩) hHeld ?_
  · intro wq hSw; go_simp; (try (first | (with_reducible rfl) | rfl | exact hew | (intro hcon; exfalso; (first | omega | (rw [hcon] at l1; simp at l1; done))) | (simp [*]; done) | (simp [*]; omega)))
  simp only [Act.put, List.getElem_toArray, List.getElem_cons_succ, List.getElem_cons_zero, List.setIfInBounds_toArray, List.set_cons_zero, List.set_cons_succ]
  refine wpAnyH_take (i := 42) (v := ?_) rfl (by kernel_rfl) (by kernel_rfl) (by kernel_rfl) (fun _ _ _ h => h) (Or.inl ⟨by rfl, ?_⟩) hHeld ?_
  rotate_left
  · intro wq hSw; go_simp; (try with_reducible rfl)
  simp only [Act.put, List.getElem_toArray, List.getElem_cons_succ, List.getElem_cons_zero, List.setIfInBounds_toArray, List.set_cons_zero, List.set_cons_succ]
  refine wpAnyH_take (i := 43) (v := undef) rfl (by kernel_rfl) (by kernel_rfl) (by kernel_rfl) (fun _ _ _ h => h) (Or.inr ⟨by rfl, rfl⟩) hHeld ?_
  simp only [Act.put, List.getElem_toArray, List.getElem_cons_succ, List.getElem_cons_zero, List.setIfInBounds_toArray, List.set_cons_zero, List.set_cons_succ]
  refine wpAnyH_take (i := 44) (v := undef) rfl (by kernel_rfl) (by kernel_rfl) (by kernel_rfl) (fun _ _ _ h => h) (Or.inr ⟨by rfl, rfl⟩) hHeld ?_
  simp only [Act.put, List.getElem_toArray, List.getElem_cons_succ, List.getElem_cons_zero, List.setIfInBounds_toArray, List.set_cons_zero, List.set_cons_succ]
  refine wpAnyH_take (i := 45) (v := undef) rfl (by kernel_rfl) (by kernel_rfl) (by kernel_rfl) (fun _ _ _ h => h) (Or.inr ⟨by rfl, rfl⟩) hHeld ?_
  simp only [Act.put, List.getElem_toArray, List.getElem_cons_succ, List.getElem_cons_zero, List.setIfInBounds_toArray, List.set_cons_zero, List.set_cons_succ]
  refine wpAnyH_take (i := 46) (v := .bool false) rfl (by kernel_rfl) (by kernel_rfl) (by kernel_rfl) (fun _ _ _ h => h) (Or.inl ⟨by rfl, ?_⟩) hHeld ?_
  · intro wq hSw; go_simp; (try (first | (with_reducible rfl) | rfl | exact hew | (intro hcon; exfalso; (first | omega | (rw [hcon] at l1; simp at l1; done))) | (simp [*]; done) | (simp [*]; omega)))
  simp only [Act.put, List.getElem_toArray, List.getElem_cons_succ, List.getElem_cons_zero, List.setIfInBounds_toArray, List.set_cons_zero, List.set_cons_succ]
  refine wpAnyH_take (i := 47) (v := .bool false) rfl (by kernel_rfl) (by kernel_rfl) (by kernel_rfl) (fun _ _ _ h => h) (Or.inl ⟨by rfl, ?_⟩) hHeld ?_
  · intro wq hSw; go_simp; (try (first | (with_reducible rfl) | rfl | exact hew | (intro hcon; exfalso; (first | omega | (rw [hcon] at l1; simp at l1; done))) | (simp [*]; done) | (simp [*]; omega)))
  simp only [Act.put, List.getElem_toArray, List.getElem_cons_succ, List.getElem_cons_zero, List.setIfInBounds_toArray, List.set_cons_zero, List.set_cons_succ]
  refine wpAnyH_done (by kernel_rfl) ?_ _
  rename_i K1 hK1 K0 hK0
  show K0 _ _
  refine hK0 _ _ ?_
  refine wp_cond_false (by rfl) (wp_skip ?_)
  show K1 _ _
  refine hK1 _ _ ?_
  exact (short_tail q z t w _ x4.heap.size op cl nu e a r v p rc vc pc _ _ _ _ _ _ _ _ _ _ _ _ _ _ _ _ _ _ _ _ _ _ _ _ _ _ _ _ _ _ _ _ _ _ _ _ _ _ _ _ _ _ _ _ _ _ _ _ _ _ _ _ _ _ _ _ _ _ _ _ _ _ _ _ _ _ _ _ _ _ _ _ _ _ _ _ _ _ _ _ _ _ _ _ _ _ _ _ _ _ _ _ _ _ _ _ _ _ _ _ _ _ _ _ _ _ _ _ _ _ _ _ _ _ _ _ _ _ _ _ _ _ _ _ _ _ _ _ _ _ _ _ _ _ _ _ _ _ _ _ _ hql hz hl hu Hk.out Hh.out yf4.drew zf4.drew hd4.drew)
end Go.Proofs.YtcobfoiajdbahaaDoor

namespace Go.Proofs.YtcobfoiajdbahaaDoor
open Go.RowKit
set_option linter.unusedVariables false
set_option linter.unusedSimpArgs false
attribute [local go_sem high] eq_Call guardCall P.eqI_self
set_option maxRecDepth 1000000 in
set_option maxHeartbeats 16000000 in
theorem short_00 (q : List UInt8) (z : Nat) (t : List UInt8) (w : World) (u3 u4 u5 u6 u7 u8 u9 u10 u11 u12 u13 u14 u15 u16 u17 u18 u19 u20 u21 u22 u23 u24 u25 u26 u27 u28 u29 u30 u31 u32 u33 u34 u35 u36 u37 u38 u39 u40 u41 u42 u43 u44 u45 u46 u47 u48 u49 u50 u51 u52 u53 u54 u55 u56 u57 u58 u59 u60 u61 u62 u63 u64 u65 u66 u67 u68 u69 u70 u71 u72 u73 u74 u75 u76 u77 u78 u79 u80 u81 u82 u83 u84 u85 u86 u87 u88 u89 u90 u91 u92 u93 u94 u95 u96 u97 u98 u99 u100 u101 u102 u103 u104 u105 u106 u107 u108 u109 u110 u111 u112 u113 u114 u115 u116 u117 u118 u119 u120 u121 u122 u123 u124 u125 u126 u127 u128 u129 u130 u131 u132 u133 u134 u135 u136 u137 u138 u139 u140 u141 u142 u143 u144 u145 : Value) (hql : q.length ≤ 2000) (hz : z < 65536) (hl : t.length ≤ 100) (hu : UsesOk w) (hk : P.hearOk q = true) (op cl nu e : Nat) (a : P.An) (hh : P.Heard q op cl nu a e) (he : e ≠ 0) (ho : op = 0) :
    Code.wp Tryd.prog restS5 (bodyPost Tryd.prog Tryd.f8 fun e' w' => e' = .returned (.bool true) ∧ Below w.heap.size w w') ⟨#[S q, .int .u16 (z : Int), S t, u3, u4, u5, u6, u7, u8, u9, u10, u11, u12, u13, u14, u15, u16, u17, u18, u19, u20, u21, u22, u23, u24, u25, u26, u27, u28, u29, u30, u31, u32, u33, u34, u35, u36, u37, u38, u39, u40, u41, u42, u43, u44, u45, u46, u47, u48, u49, u50, u51, u52, u53, u54, u55, u56, u57, u58, u59, u60, u61, u62, u63, u64, u65, u66, u67, u68, u69, u70, u71, u72, u73, u74, u75, u76, u77, u78, u79, u80, u81, u82, u83, u84, u85, u86, u87, u88, u89, u90, u91, u92, u93, u94, u95, u96, u97, u98, u99, u100, u101, u102, u103, u104, u105, u106, u107, u108, u109, u110, u111, u112, u113, u114, u115, u116, u117, u118, u119, u120, u121, u122, u123, u124, u125, u126, u127, u128, u129, u130, u131, u132, u133, u134, u135, u136, u137, u138, u139, u140, u141, u142, u143, u144, u145], []⟩ w := by
  conv => arg 2; whnf
  have hc0 := Below.refl w.heap.size w
  obtain ⟨l1, l2, l3⟩ := hh.len
  have HY := Lib.hid (fun wx => hear_yes (by omega) hh hk wx)
  have hb0 : ((ByteArray.mk q.toArray)[0]'(by show 0 < q.toArray.size; simp; omega)).toNat = e := by obtain ⟨r, hr⟩ := hh.cons; subst hr; show (P.byt e).toNat = e; rw [P.byt_toNat]; have := hh.lt; omega
  have hb1 : ((ByteArray.mk q.toArray)[1]'(by show 1 < q.toArray.size; simp; omega)).toNat = op := by obtain ⟨r, hr⟩ := hh.cons; subst hr; show (P.byt op).toNat = op; rw [P.byt_toNat]; have := hh.op'; omega
  have hb2 : ((ByteArray.mk q.toArray)[2]'(by show 2 < q.toArray.size; simp; omega)).toNat = cl := by obtain ⟨r, hr⟩ := hh.cons; subst hr; show (P.byt cl).toNat = cl; rw [P.byt_toNat]; have := hh.cl'; omega
  have hew : IntKind.u8.wrap (e : Int) = (e : Int) := by
    have := hh.lt
    unfold IntKind.wrap
    simp [IntKind.signed, IntKind.bits]
    omega
  have hem : (e : Int) % 256 = (e : Int) := by have := hh.lt; omega
  have h11 : ¬ (q.length : Int) < (11 : Int) := by omega
  have he0 : ((e : Int) != 0) = true := by simpa using he
  have h11e : (q.length : Int) = 11 := by have := l2 he; omega
  have ho1 : decide ((1 : Int) ≤ (op : Int)) = false := decide_eq_false (by omega)
  have Hh := Lib.hid hh
  have Hk := Lib.hid hk
  clear l2 l3 hh hk ho he
  go_upto_region 8 with (first
    | (go_at_call 23; (with_reducible refine (HY.out _).mono ?_); rintro e' x4 ⟨r, rc, v, vc, p, pc, rfl, hb4⟩; have hc4 := Chain.up hc0 hb4; obtain ⟨y4, z4, hB4⟩ := two_bx x4 #[.int .u8 0, .int .u8 0, .int .u64 0, .int .u8 0, .int .u64 0, .int .u64 0, .int .i64 0, .int .u8 0, .int .u64 0, .int .u64 0, .string ⟨#[]⟩, .string ⟨#[]⟩, .int .u64 0, .int .u64 0, .int .i64 0] #[.int .u8 0, .int .u64 0, .int .u64 0, .string ⟨#[]⟩, .int .u64 0, .int .u8 0, .int .u64 0, .int .u64 0, .int .i64 0, .bool false, .bool false, .bool false, .int .u64 0, .slice none 0 0, .slice none 0 0, .slice none 0 0] 28 36)
    | (refine wpList_stB (by rfl) _ _ _ (by rfl) y4 _ _ (by rfl) (by rfl) 15 15 (by rfl) (by rfl) (by decide) infoCall (by rfl) (by rfl) ?_; intro w3 hz' hsw3; have yy4 : Bx w3 x4.heap.size 28 #[.int .u8 (op : Nat), .int .u8 (cl : Nat), V64 nu, .int .u8 0, .int .u64 0, .int .u64 0, .int .i64 0, .int .u8 0, .int .u64 0, .int .u64 0, .string ⟨#[]⟩, .string ⟨#[]⟩, .int .u64 0, .int .u64 0, .int .i64 0] := hz'; clear hz'; have zz4 := z4.but hsw3 (by omega); skip)
    | (refine wpList_stB (by rfl) _ _ _ (by rfl) zz4 _ _ (by rfl) (by rfl) 16 16 (by rfl) (by rfl) (by decide) infoAns (by rfl) (by rfl) ?_; intro w4 hz' hsw4; have zf4 : Bx w4 (x4.heap.size + 1) 36 #[.int .u8 (a.a.fam : Nat), V64 a.a.hi, V64 a.a.lo, S a.owner, V64 a.til, .int .u8 (a.pool.a.fam : Nat), V64 a.pool.a.hi, V64 a.pool.a.lo, .int .i64 a.pool.bits, .bool a.has, .bool a.held, .bool a.live, V64 a.clock, .slice r a.rows.length rc, .slice v a.events.length vc, .slice p a.pools.length pc] := hz'; clear hz'; have yf4 := yy4.but hsw4 (by omega); have hd4 := Chain.up hc4 ((hB4.trans (hsw3.below (Nat.le_refl _) hB4.size)).trans (hsw4.below (Nat.le_succ _) (by have := hB4.size; have := hsw3.size; omega))); skip))
  refine wp_region_held_drew (S := fun wx => Below w4.heap.size w4 wx) (by kernel_rfl) (Below.refl _ _).drew (fun hHeld => ?_)
  refine wpAnyH_take (i := 0) (v := ?_) rfl (by kernel_rfl) (by kernel_rfl) (by kernel_rfl) (fun _ _ _ h => h) (Or.inl ⟨by rfl, ?_⟩) hHeld ?_
  rotate_left
  · intro wq hSw; go_simp; (try with_reducible rfl)
  simp only [Act.put, List.getElem_toArray, List.getElem_cons_succ, List.getElem_cons_zero, List.setIfInBounds_toArray, List.set_cons_zero, List.set_cons_succ]
  refine wpAnyH_take (i := 1) (v := ?_) rfl (by kernel_rfl) (by kernel_rfl) (by kernel_rfl) (fun _ _ _ h => h) (Or.inl ⟨by rfl, ?_⟩) hHeld ?_
  rotate_left
  · intro wq hSw; go_simp; (try with_reducible rfl)
  simp only [Act.put, List.getElem_toArray, List.getElem_cons_succ, List.getElem_cons_zero, List.setIfInBounds_toArray, List.set_cons_zero, List.set_cons_succ]
  refine wpAnyH_take (i := 2) (v := .bool false) rfl (by kernel_rfl) (by kernel_rfl) (by kernel_rfl) (fun _ _ _ h => h) (Or.inl ⟨by rfl, ?_⟩) hHeld ?_
  · intro wq hSw; go_simp; (try (first | (with_reducible rfl) | rfl | exact hew | (intro hcon; exfalso; (first | omega | (rw [hcon] at l1; simp at l1; done))) | (simp [*]; done) | (simp [*]; omega)))
  simp only [Act.put, List.getElem_toArray, List.getElem_cons_succ, List.getElem_cons_zero, List.setIfInBounds_toArray, List.set_cons_zero, List.set_cons_succ]
  refine wpAnyH_take (i := 3) (v := ?_) rfl (by kernel_rfl) (by kernel_rfl) (by kernel_rfl) (fun _ _ _ h => h) (Or.inl ⟨by rfl, ?_⟩) hHeld ?_
  rotate_left
  · intro wq hSw; go_simp; (try with_reducible rfl)
  simp only [Act.put, List.getElem_toArray, List.getElem_cons_succ, List.getElem_cons_zero, List.setIfInBounds_toArray, List.set_cons_zero, List.set_cons_succ]
  refine wpAnyH_take (i := 4) (v := ?_) rfl (by kernel_rfl) (by kernel_rfl) (by kernel_rfl) (fun _ _ _ h => h) (Or.inl ⟨by rfl, ?_⟩) hHeld ?_
  rotate_left
  · intro wq hSw; go_simp; (try with_reducible rfl)
  simp only [Act.put, List.getElem_toArray, List.getElem_cons_succ, List.getElem_cons_zero, List.setIfInBounds_toArray, List.set_cons_zero, List.set_cons_succ]
  refine wpAnyH_take (i := 5) (v := .int .u8 (e : Nat)) rfl (by kernel_rfl) (by kernel_rfl) (by kernel_rfl) (fun _ _ _ h => h) (Or.inl ⟨by rfl, ?_⟩) hHeld ?_
  · intro wq hSw; go_simp; (try (first | (with_reducible rfl) | rfl | exact hew | (intro hcon; exfalso; (first | omega | (rw [hcon] at l1; simp at l1; done))) | (simp [*]; done) | (simp [*]; omega)))
  simp only [Act.put, List.getElem_toArray, List.getElem_cons_succ, List.getElem_cons_zero, List.setIfInBounds_toArray, List.set_cons_zero, List.set_cons_succ]
  refine wpAnyH_take (i := 6) (v := ?_) rfl (by kernel_rfl) (by kernel_rfl) (by kernel_rfl) (fun _ _ _ h => h) (Or.inl ⟨by rfl, ?_⟩) hHeld ?_
  rotate_left
  · intro wq hSw; go_simp; (try with_reducible rfl)
  simp only [Act.put, List.getElem_toArray, List.getElem_cons_succ, List.getElem_cons_zero, List.setIfInBounds_toArray, List.set_cons_zero, List.set_cons_succ]
  refine wpAnyH_take (i := 7) (v := .int .u8 (e : Nat)) rfl (by kernel_rfl) (by kernel_rfl) (by kernel_rfl) (fun _ _ _ h => h) (Or.inl ⟨by rfl, ?_⟩) hHeld ?_
  · intro wq hSw; go_simp; (try (first | (with_reducible rfl) | rfl | exact hew | (intro hcon; exfalso; (first | omega | (rw [hcon] at l1; simp at l1; done))) | (simp [*]; done) | (simp [*]; omega)))
  simp only [Act.put, List.getElem_toArray, List.getElem_cons_succ, List.getElem_cons_zero, List.setIfInBounds_toArray, List.set_cons_zero, List.set_cons_succ]
  refine wpAnyH_take (i := 8) (v := .bool false) rfl (by kernel_rfl) (by kernel_rfl) (by kernel_rfl) (fun _ _ _ h => h) (Or.inl ⟨by rfl, ?_⟩) hHeld ?_
  · intro wq hSw; go_simp; (try (first | (with_reducible rfl) | rfl | exact hew | (intro hcon; exfalso; (first | omega | (rw [hcon] at l1; simp at l1; done))) | (simp [*]; done) | (simp [*]; omega)))
  simp only [Act.put, List.getElem_toArray, List.getElem_cons_succ, List.getElem_cons_zero, List.setIfInBounds_toArray, List.set_cons_zero, List.set_cons_succ]
  refine wpAnyH_take (i := 9) (v := .bool false) rfl (by kernel_rfl) (by kernel_rfl) (by kernel_rfl) (fun _ _ _ h => h) (Or.inl ⟨by rfl, ?_⟩) hHeld ?_
  · intro wq hSw; go_simp; (try (first | (with_reducible rfl) | rfl | exact hew | (intro hcon; exfalso; (first | omega | (rw [hcon] at l1; simp at l1; done))) | (simp [*]; done) | (simp [*]; omega)))
  simp only [Act.put, List.getElem_toArray, List.getElem_cons_succ, List.getElem_cons_zero, List.setIfInBounds_toArray, List.set_cons_zero, List.set_cons_succ]
  refine wpAnyH_take (i := 10) (v := ?_) rfl (by kernel_rfl) (by kernel_rfl) (by kernel_rfl) (fun _ _ _ h => h) (Or.inl ⟨by rfl, ?_⟩) hHeld ?_
  rotate_left
  · intro wq hSw; go_simp; (try with_reducible rfl)
  simp only [Act.put, List.getElem_toArray, List.getElem_cons_succ, List.getElem_cons_zero, List.setIfInBounds_toArray, List.set_cons_zero, List.set_cons_succ]
  refine wpAnyH_take (i := 11) (v := ?_) rfl (by kernel_rfl) (by kernel_rfl) (by kernel_rfl) (fun _ _ _ h => h) (Or.inl ⟨by rfl, ?_⟩) hHeld ?_
  rotate_left
  · intro wq hSw; go_simp; (try with_reducible rfl)
  simp only [Act.put, List.getElem_toArray, List.getElem_cons_succ, List.getElem_cons_zero, List.setIfInBounds_toArray, List.set_cons_zero, List.set_cons_succ]
  refine wpAnyH_take (i := 12) (v := .int .u8 (op : Nat)) rfl (by kernel_rfl) (by kernel_rfl) (by kernel_rfl) (fun _ _ _ h => h) (Or.inl ⟨by rfl, ?_⟩) hHeld ?_
  · intro wq hSw; go_simp; (try (first | (with_reducible rfl) | rfl | exact hew | (intro hcon; exfalso; (first | omega | (rw [hcon] at l1; simp at l1; done))) | (simp [*]; done) | (simp [*]; omega)))
  simp only [Act.put, List.getElem_toArray, List.getElem_cons_succ, List.getElem_cons_zero, List.setIfInBounds_toArray, List.set_cons_zero, List.set_cons_succ]
  refine wpAnyH_take (i := 13) (v := ?_) rfl (by kernel_rfl) (by kernel_rfl) (by kernel_rfl) (fun _ _ _ h => h) (Or.inl ⟨by rfl, ?_⟩) hHeld ?_
  rotate_left
  · intro wq hSw; go_simp; (try with_reducible rfl)
  simp only [Act.put, List.getElem_toArray, List.getElem_cons_succ, List.getElem_cons_zero, List.setIfInBounds_toArray, List.set_cons_zero, List.set_cons_succ]
  refine wpAnyH_take (i := 14) (v := ?_) rfl (by kernel_rfl) (by kernel_rfl) (by kernel_rfl) (fun _ _ _ h => h) (Or.inl ⟨by rfl, ?_⟩) hHeld ?_
  rotate_left
  · intro wq hSw; have hq := (yf4.up hSw).cell 0; simp only [List.getElem?_toArray, List.getElem?_cons_succ, List.getElem?_cons_zero] at hq; go_simp; (try with_reducible rfl)
  simp only [Act.put, List.getElem_toArray, List.getElem_cons_succ, List.getElem_cons_zero, List.setIfInBounds_toArray, List.set_cons_zero, List.set_cons_succ]
  refine wpAnyH_take (i := 15) (v := .bool false) rfl (by kernel_rfl) (by kernel_rfl) (by kernel_rfl) (fun _ _ _ h => h) (Or.inl ⟨by rfl, ?_⟩) hHeld ?_
  · intro wq hSw; go_simp; (try (first | (with_reducible rfl) | rfl | exact hew | (intro hcon; exfalso; (first | omega | (rw [hcon] at l1; simp at l1; done))) | (simp [*]; done) | (simp [*]; omega)))
  simp only [Act.put, List.getElem_toArray, List.getElem_cons_succ, List.getElem_cons_zero, List.setIfInBounds_toArray, List.set_cons_zero, List.set_cons_succ]
  refine wpAnyH_take (i := 16) (v := .bool false) rfl (by kernel_rfl) (by kernel_rfl) (by kernel_rfl) (fun _ _ _ h => h) (Or.inl ⟨by rfl, ?_⟩) hHeld ?_
  · intro wq hSw; go_simp; (try (first | (with_reducible rfl) | rfl | exact hew | (intro hcon; exfalso; (first | omega | (rw [hcon] at l1; simp at l1; done))) | (simp [*]; done) | (simp [*]; omega)))
  simp only [Act.put, List.getElem_toArray, List.getElem_cons_succ, List.getElem_cons_zero, List.setIfInBounds_toArray, List.set_cons_zero, List.set_cons_succ]
  refine wpAnyH_take (i := 17) (v := ?_) rfl (by kernel_rfl) (by kernel_rfl) (by kernel_rfl) (fun _ _ _ h => h) (Or.inl ⟨by rfl, ?_⟩) hHeld ?_
  rotate_left
  · intro wq hSw; go_simp; (try with_reducible rfl)
  simp only [Act.put, List.getElem_toArray, List.getElem_cons_succ, List.getElem_cons_zero, List.setIfInBounds_toArray, List.set_cons_zero, List.set_cons_succ]
  refine wpAnyH_take (i := 18) (v := ?_) rfl (by kernel_rfl) (by kernel_rfl) (by kernel_rfl) (fun _ _ _ h => h) (Or.inl ⟨by rfl, ?_⟩) hHeld ?_
  rotate_left
  · intro wq hSw; go_simp; (try with_reducible rfl)
  simp only [Act.put, List.getElem_toArray, List.getElem_cons_succ, List.getElem_cons_zero, List.setIfInBounds_toArray, List.set_cons_zero, List.set_cons_succ]
  refine wpAnyH_take (i := 19) (v := .int .u8 (cl : Nat)) rfl (by kernel_rfl) (by kernel_rfl) (by kernel_rfl) (fun _ _ _ h => h) (Or.inl ⟨by rfl, ?_⟩) hHeld ?_
  · intro wq hSw; go_simp; (try (first | (with_reducible rfl) | rfl | exact hew | (intro hcon; exfalso; (first | omega | (rw [hcon] at l1; simp at l1; done))) | (simp [*]; done) | (simp [*]; omega)))
  simp only [Act.put, List.getElem_toArray, List.getElem_cons_succ, List.getElem_cons_zero, List.setIfInBounds_toArray, List.set_cons_zero, List.set_cons_succ]
  refine wpAnyH_take (i := 20) (v := ?_) rfl (by kernel_rfl) (by kernel_rfl) (by kernel_rfl) (fun _ _ _ h => h) (Or.inl ⟨by rfl, ?_⟩) hHeld ?_
  rotate_left
  · intro wq hSw; go_simp; (try with_reducible rfl)
  simp only [Act.put, List.getElem_toArray, List.getElem_cons_succ, List.getElem_cons_zero, List.setIfInBounds_toArray, List.set_cons_zero, List.set_cons_succ]
  refine wpAnyH_take (i := 21) (v := ?_) rfl (by kernel_rfl) (by kernel_rfl) (by kernel_rfl) (fun _ _ _ h => h) (Or.inl ⟨by rfl, ?_⟩) hHeld ?_
  rotate_left
  · intro wq hSw; have hq := (yf4.up hSw).cell 1; simp only [List.getElem?_toArray, List.getElem?_cons_succ, List.getElem?_cons_zero] at hq; go_simp; (try with_reducible rfl)
  simp only [Act.put, List.getElem_toArray, List.getElem_cons_succ, List.getElem_cons_zero, List.setIfInBounds_toArray, List.set_cons_zero, List.set_cons_succ]
  refine wpAnyH_take (i := 22) (v := .bool false) rfl (by kernel_rfl) (by kernel_rfl) (by kernel_rfl) (fun _ _ _ h => h) (Or.inl ⟨by rfl, ?_⟩) hHeld ?_
  · intro wq hSw; go_simp; (try (first | (with_reducible rfl) | rfl | exact hew | (intro hcon; exfalso; (first | omega | (rw [hcon] at l1; simp at l1; done))) | (simp [*]; done) | (simp [*]; omega)))
  simp only [Act.put, List.getElem_toArray, List.getElem_cons_succ, List.getElem_cons_zero, List.setIfInBounds_toArray, List.set_cons_zero, List.set_cons_succ]
  refine wpAnyH_take (i := 23) (v := .bool false) rfl (by kernel_rfl) (by kernel_rfl) (by kernel_rfl) (fun _ _ _ h => h) (Or.inl ⟨by rfl, ?_⟩) hHeld ?_
  · intro wq hSw; go_simp; (try (first | (with_reducible rfl) | rfl | exact hew | (intro hcon; exfalso; (first | omega | (rw [hcon] at l1; simp at l1; done))) | (simp [*]; done) | (simp [*]; omega)))
  simp only [Act.put, List.getElem_toArray, List.getElem_cons_succ, List.getElem_cons_zero, List.setIfInBounds_toArray, List.set_cons_zero, List.set_cons_succ]
  refine wpAnyH_take (i := 24) (v := ?_) rfl (by kernel_rfl) (by kernel_rfl) (by kernel_rfl) (fun _ _ _ h => h) (Or.inl ⟨by rfl, ?_⟩) hHeld ?_
  rotate_left
  · intro wq hSw; go_simp; (try with_reducible rfl)
  simp only [Act.put, List.getElem_toArray, List.getElem_cons_succ, List.getElem_cons_zero, List.setIfInBounds_toArray, List.set_cons_zero, List.set_cons_succ]
  refine wpAnyH_take (i := 25) (v := ?_) rfl (by kernel_rfl) (by kernel_rfl) (by kernel_rfl) (fun _ _ _ h => h) (Or.inl ⟨by rfl, ?_⟩) hHeld ?_
  rotate_left
  · intro wq hSw; go_simp; (try with_reducible rfl)
  simp only [Act.put, List.getElem_toArray, List.getElem_cons_succ, List.getElem_cons_zero, List.setIfInBounds_toArray, List.set_cons_zero, List.set_cons_succ]
  refine wpAnyH_take (i := 26) (v := .bool true) rfl (by kernel_rfl) (by kernel_rfl) (by kernel_rfl) (fun _ _ _ h => h) (Or.inl ⟨by rfl, ?_⟩) hHeld ?_
  · intro wq hSw; go_simp; (try (first | (with_reducible rfl) | rfl | exact hew | (intro hcon; exfalso; (first | omega | (rw [hcon] at l1; simp at l1; done))) | (simp [*]; done) | (simp [*]; omega)))
  simp only [Act.put, List.getElem_toArray, List.getElem_cons_succ, List.getElem_cons_zero, List.setIfInBounds_toArray, List.set_cons_zero, List.set_cons_succ]
  refine wpAnyH_take (i := 27) (v := ?_) rfl (by kernel_rfl) (by kernel_rfl) (by kernel_rfl) (fun _ _ _ h => h) (Or.inl ⟨by rfl, ?_⟩) hHeld ?_
  rotate_left
  · intro wq hSw; go_simp; (try with_reducible rfl)
  simp only [Act.put, List.getElem_toArray, List.getElem_cons_succ, List.getElem_cons_zero, List.setIfInBounds_toArray, List.set_cons_zero, List.set_cons_succ]
  refine wpAnyH_take (i := 28) (v := ?_) rfl (by kernel_rfl) (by kernel_rfl) (by kernel_rfl) (fun _ _ _ h => h) (Or.inl ⟨by rfl, ?_⟩) hHeld ?_
  rotate_left
  · intro wq hSw; go_simp; (try with_reducible rfl)
  simp only [Act.put, List.getElem_toArray, List.getElem_cons_succ, List.getElem_cons_zero, List.setIfInBounds_toArray, List.set_cons_zero, List.set_cons_succ]
  refine wpAnyH_take (i := 29) (v := ?_) rfl (by kernel_rfl) (by kernel_rfl) (by kernel_rfl) (fun _ _ _ h => h) (Or.inl ⟨by rfl, ?_⟩) hHeld ?_
  rotate_left
  · intro wq hSw; go_simp; (try with_reducible rfl)
  simp only [Act.put, List.getElem_toArray, List.getElem_cons_succ, List.getElem_cons_zero, List.setIfInBounds_toArray, List.set_cons_zero, List.set_cons_succ]
  refine wpAnyH_take (i := 30) (v := .bool false) rfl (by kernel_rfl) (by kernel_rfl) (by kernel_rfl) (fun _ _ _ h => h) (Or.inl ⟨by rfl, ?_⟩) hHeld ?_
  · intro wq hSw; go_simp; (try (first | (with_reducible rfl) | rfl | exact hew | (intro hcon; exfalso; (first | omega | (rw [hcon] at l1; simp at l1; done))) | (simp [*]; done) | (simp [*]; omega)))
  simp only [Act.put, List.getElem_toArray, List.getElem_cons_succ, List.getElem_cons_zero, List.setIfInBounds_toArray, List.set_cons_zero, List.set_cons_succ]
  refine wpAnyH_take (i := 31) (v := .bool false) rfl (by kernel_rfl) (by kernel_rfl) (by kernel_rfl) (fun _ _ _ h => h) (Or.inl ⟨by rfl, ?_⟩) hHeld ?_
  · intro wq hSw; go_simp; (try (first | (with_reducible rfl) | rfl | exact hew | (intro hcon; exfalso; (first | omega | (rw [hcon] at l1; simp at l1; done))) | (simp [*]; done) | (simp [*]; omega)))
  simp only [Act.put, List.getElem_toArray, List.getElem_cons_succ, List.getElem_cons_zero, List.setIfInBounds_toArray, List.set_cons_zero, List.set_cons_succ]
  refine wpAnyH_take (i := 32) (v := .bool false) rfl (by kernel_rfl) (by kernel_rfl) (by kernel_rfl) (fun _ _ _ h => h) (Or.inl ⟨by rfl, ?_⟩) hHeld ?_
  · intro wq hSw; go_simp; (try (first | (with_reducible rfl) | rfl | exact hew | (intro hcon; exfalso; (first | omega | (rw [hcon] at l1; simp at l1; done))) | (simp [*]; done) | (simp [*]; omega)))
  simp only [Act.put, List.getElem_toArray, List.getElem_cons_succ, List.getElem_cons_zero, List.setIfInBounds_toArray, List.set_cons_zero, List.set_cons_succ]
  refine wpAnyH_take (i := 33) (v := ?_) rfl (by kernel_rfl) (by kernel_rfl) (by kernel_rfl) (fun _ _ _ h => h) (Or.inl ⟨by rfl, ?_⟩) hHeld ?_
  rotate_left
  · intro wq hSw; go_simp; (try with_reducible rfl)
  simp only [Act.put, List.getElem_toArray, List.getElem_cons_succ, List.getElem_cons_zero, List.setIfInBounds_toArray, List.set_cons_zero, List.set_cons_succ]
  refine wpAnyH_take (i := 34) (v := ?_) rfl (by kernel_rfl) (by kernel_rfl) (by kernel_rfl) (fun _ _ _ h => h) (Or.inl ⟨by rfl, ?_⟩) hHeld ?_
  rotate_left
  · intro wq hSw; go_simp; (try with_reducible rfl)
  simp only [Act.put, List.getElem_toArray, List.getElem_cons_succ, List.getElem_cons_zero, List.setIfInBounds_toArray, List.set_cons_zero, List.set_cons_succ]
  refine wpAnyH_take (i := 35) (v := ?_) rfl (by kernel_rfl) (by kernel_rfl) (by kernel_rfl) (fun _ _ _ h => h) (Or.inl ⟨by rfl, ?_⟩) hHeld ?_
  rotate_left
  · intro wq hSw; have hq := (yf4.up hSw).cell 0; simp only [List.getElem?_toArray, List.getElem?_cons_succ, List.getElem?_cons_zero] at hq; go_simp; (try with_reducible rfl)
  simp only [Act.put, List.getElem_toArray, List.getElem_cons_succ, List.getElem_cons_zero, List.setIfInBounds_toArray, List.set_cons_zero, List.set_cons_succ]
  refine wpAnyH_take (i := 36) (v := .bool false) rfl (by kernel_rfl) (by kernel_rfl) (by kernel_rfl) (fun _ _ _ h => h) (Or.inl ⟨by rfl, ?_⟩) hHeld ?_
  · intro wq hSw; go_simp; (try (first | (with_reducible rfl) | rfl | exact hew | (intro hcon; exfalso; (first | omega | (rw [hcon] at l1; simp at l1; done))) | (simp [*]; done) | (simp [*]; omega)))
  simp only [Act.put, List.getElem_toArray, List.getElem_cons_succ, List.getElem_cons_zero, List.setIfInBounds_toArray, List.set_cons_zero, List.set_cons_succ]
  refine wpAnyH_take (i := 37) (v := ?_) rfl (by kernel_rfl) (by kernel_rfl) (by kernel_rfl) (fun _ _ _ h => h) (Or.inl ⟨by rfl, ?_⟩) hHeld ?_
  rotate_left
  · intro wq hSw; go_simp; (try with_reducible rfl)
  simp only [Act.put, List.getElem_toArray, List.getElem_cons_succ, List.getElem_cons_zero, List.setIfInBounds_toArray, List.set_cons_zero, List.set_cons_succ]
  refine wpAnyH_take (i := 38) (v := undef) rfl (by kernel_rfl) (by kernel_rfl) (by kernel_rfl) (fun _ _ _ h => h) (Or.inr ⟨by rfl, rfl⟩) hHeld ?_
  simp only [Act.put, List.getElem_toArray, List.getElem_cons_succ, List.getElem_cons_zero, List.setIfInBounds_toArray, List.set_cons_zero, List.set_cons_succ]
  refine wpAnyH_take (i := 39) (v := undef) rfl (by kernel_rfl) (by kernel_rfl) (by kernel_rfl) (fun _ _ _ h => h) (Or.inr ⟨by rfl, rfl⟩) hHeld ?_
  simp only [Act.put, List.getElem_toArray, List.getElem_cons_succ, List.getElem_cons_zero, List.setIfInBounds_toArray, List.set_cons_zero, List.set_cons_succ]
  refine wpAnyH_take (i := 40) (v := undef) rfl (by kernel_rfl) (by kernel_rfl) (by kernel_rfl) (fun _ _ _ h => h) (Or.inr ⟨by rfl, rfl⟩) hHeld ?_
  simp only [Act.put, List.getElem_toArray, List.getElem_cons_succ, List.getElem_cons_zero, List.setIfInBounds_toArray, List.set_cons_zero, List.set_cons_succ]
  refine wpAnyH_take (i := 41) (v := .bool false) rfl (by kernel_rfl) (by kernel_rfl) (by kernel_rfl) (fun _ _ _ h => h) (Or.inl ⟨by rfl, ?_⟩) hHeld ?_
  · intro wq hSw; go_simp; (try (first | (with_reducible rfl) | rfl | exact hew | (intro hcon; exfalso; (first | omega | (rw [hcon] at l1; simp at l1; done))) | (simp [*]; done) | (simp [*]; omega)))
  simp only [Act.put, List.getElem_toArray, List.getElem_cons_succ, List.getElem_cons_zero, List.setIfInBounds_toArray, List.set_cons_zero, List.set_cons_succ]
  refine wpAnyH_take (i := 42) (v := ?_) rfl (by kernel_rfl) (by kernel_rfl) (by kernel_rfl) (fun _ _ _ h => h) (Or.inl ⟨by rfl, ?_⟩) hHeld ?_
  rotate_left
  · intro wq hSw; go_simp; (try with_reducible rfl)
  simp only [Act.put, List.getElem_toArray, List.getElem_cons_succ, List.getElem_cons_zero, List.setIfInBounds_toArray, List.set_cons_zero, List.set_cons_succ]
  refine wpAnyH_take (i := 43) (v := undef) rfl (by kernel_rfl) (by kernel_rfl) (by kernel_rfl) (fun _ _ _ h => h) (Or.inr ⟨by rfl, rfl⟩) hHeld ?_
  simp only [Act.put, List.getElem_toArray, List.getElem_cons_succ, List.getElem_cons_zero, List.setIfInBounds_toArray, List.set_cons_zero, List.set_cons_succ]
  refine wpAnyH_take (i := 44) (v := undef) rfl (by kernel_rfl) (by kernel_rfl) (by kernel_rfl) (fun _ _ _ h => h) (Or.inr ⟨by rfl, rfl⟩) hHeld ?_
  simp only [Act.put, List.getElem_toArray, List.getElem_cons_succ, List.getElem_cons_zero, List.setIfInBounds_toArray, List.set_cons_zero, List.set_cons_succ]
  refine wpAnyH_take (i := 45) (v := undef) rfl (by kernel_rfl) (by kernel_rfl) (by kernel_rfl) (fun _ _ _ h => h) (Or.inr ⟨by rfl, rfl⟩) hHeld ?_
  simp only [Act.put, List.getElem_toArray, List.getElem_cons_succ, List.getElem_cons_zero, List.setIfInBounds_toArray, List.set_cons_zero, List.set_cons_succ]
  refine wpAnyH_take (i := 46) (v := .bool false) rfl (by kernel_rfl) (by kernel_rfl) (by kernel_rfl) (fun _ _ _ h => h) (Or.inl ⟨by rfl, ?_⟩) hHeld ?_
  · intro wq hSw; go_simp; (try (first | (with_reducible rfl) | rfl | exact hew | (intro hcon; exfalso; (first | omega | (rw [hcon] at l1; simp at l1; done))) | (simp [*]; done) | (simp [*]; omega)))
  simp only [Act.put, List.getElem_toArray, List.getElem_cons_succ, List.getElem_cons_zero, List.setIfInBounds_toArray, List.set_cons_zero, List.set_cons_succ]
  refine wpAnyH_take (i := 47) (v := .bool false) rfl (by kernel_rfl) (by kernel_rfl) (by kernel_rfl) (fun _ _ _ h => h) (Or.inl ⟨by rfl, ?_⟩) hHeld ?_
  · intro wq hSw; go_simp; (try (first | (with_reducible rfl) | rfl | exact hew | (intro hcon; exfalso; (first | omega | (rw [hcon] at l1; simp at l1; done))) | (simp [*]; done) | (simp [*]; omega)))
  simp only [Act.put, List.getElem_toArray, List.getElem_cons_succ, List.getElem_cons_zero, List.setIfInBounds_toArray, List.set_cons_zero, List.set_cons_succ]
  refine wpAnyH_done (by kernel_rfl) ?_ _
  rename_i K1 hK1 K0 hK0
  show K0 _ _
  refine hK0 _ _ ?_
  refine wp_cond_false (by rfl) (wp_skip ?_)
  show K1 _ _
  refine hK1 _ _ ?_
  exact (short_tail q z t w _ x4.heap.size op cl nu e a r v p rc vc pc _ _ _ _ _ _ _ _ _ _ _ _ _ _ _ _ _ _ _ _ _ _ _ _ _ _ _ _ _ _ _ _ _ _ _ _ _ _ _ _ _ _ _ _ _ _ _ _ _ _ _ _ _ _ _ _ _ _ _ _ _ _ _ _ _ _ _ _ _ _ _ _ _ _ _ _ _ _ _ _ _ _ _ _ _ _ _ _ _ _ _ _ _ _ _ _ _ _ _ _ _ _ _ _ _ _ _ _ _ _ _ _ _ _ _ _ _ _ _ _ _ _ _ _ _ _ _ _ _ _ _ _ _ _ _ _ _ _ _ _ _ hql hz hl hu Hk.out Hh.out yf4.drew zf4.drew hd4.drew)

set_option maxRecDepth 1000000 in
set_option maxHeartbeats 16000000 in
theorem short_01 (q : List UInt8) (z : Nat) (t : List UInt8) (w : World) (u3 u4 u5 u6 u7 u8 u9 u10 u11 u12 u13 u14 u15 u16 u17 u18 u19 u20 u21 u22 u23 u24 u25 u26 u27 u28 u29 u30 u31 u32 u33 u34 u35 u36 u37 u38 u39 u40 u41 u42 u43 u44 u45 u46 u47 u48 u49 u50 u51 u52 u53 u54 u55 u56 u57 u58 u59 u60 u61 u62 u63 u64 u65 u66 u67 u68 u69 u70 u71 u72 u73 u74 u75 u76 u77 u78 u79 u80 u81 u82 u83 u84 u85 u86 u87 u88 u89 u90 u91 u92 u93 u94 u95 u96 u97 u98 u99 u100 u101 u102 u103 u104 u105 u106 u107 u108 u109 u110 u111 u112 u113 u114 u115 u116 u117 u118 u119 u120 u121 u122 u123 u124 u125 u126 u127 u128 u129 u130 u131 u132 u133 u134 u135 u136 u137 u138 u139 u140 u141 u142 u143 u144 u145 : Value) (hql : q.length ≤ 2000) (hz : z < 65536) (hl : t.length ≤ 100) (hu : UsesOk w) (hk : P.hearOk q = true) (op cl nu e : Nat) (a : P.An) (hh : P.Heard q op cl nu a e) (he : e ≠ 0) (ho : 1 ≤ op ∧ op ≤ 9) :
    Code.wp Tryd.prog restS5 (bodyPost Tryd.prog Tryd.f8 fun e' w' => e' = .returned (.bool true) ∧ Below w.heap.size w w') ⟨#[S q, .int .u16 (z : Int), S t, u3, u4, u5, u6, u7, u8, u9, u10, u11, u12, u13, u14, u15, u16, u17, u18, u19, u20, u21, u22, u23, u24, u25, u26, u27, u28, u29, u30, u31, u32, u33, u34, u35, u36, u37, u38, u39, u40, u41, u42, u43, u44, u45, u46, u47, u48, u49, u50, u51, u52, u53, u54, u55, u56, u57, u58, u59, u60, u61, u62, u63, u64, u65, u66, u67, u68, u69, u70, u71, u72, u73, u74, u75, u76, u77, u78, u79, u80, u81, u82, u83, u84, u85, u86, u87, u88, u89, u90, u91, u92, u93, u94, u95, u96, u97, u98, u99, u100, u101, u102, u103, u104, u105, u106, u107, u108, u109, u110, u111, u112, u113, u114, u115, u116, u117, u118, u119, u120, u121, u122, u123, u124, u125, u126, u127, u128, u129, u130, u131, u132, u133, u134, u135, u136, u137, u138, u139, u140, u141, u142, u143, u144, u145], []⟩ w := by
  conv => arg 2; whnf
  have hc0 := Below.refl w.heap.size w
  obtain ⟨l1, l2, l3⟩ := hh.len
  have HY := Lib.hid (fun wx => hear_yes (by omega) hh hk wx)
  have hb0 : ((ByteArray.mk q.toArray)[0]'(by show 0 < q.toArray.size; simp; omega)).toNat = e := by obtain ⟨r, hr⟩ := hh.cons; subst hr; show (P.byt e).toNat = e; rw [P.byt_toNat]; have := hh.lt; omega
  have hb1 : ((ByteArray.mk q.toArray)[1]'(by show 1 < q.toArray.size; simp; omega)).toNat = op := by obtain ⟨r, hr⟩ := hh.cons; subst hr; show (P.byt op).toNat = op; rw [P.byt_toNat]; have := hh.op'; omega
  have hb2 : ((ByteArray.mk q.toArray)[2]'(by show 2 < q.toArray.size; simp; omega)).toNat = cl := by obtain ⟨r, hr⟩ := hh.cons; subst hr; show (P.byt cl).toNat = cl; rw [P.byt_toNat]; have := hh.cl'; omega
  have hew : IntKind.u8.wrap (e : Int) = (e : Int) := by
    have := hh.lt
    unfold IntKind.wrap
    simp [IntKind.signed, IntKind.bits]
    omega
  have hem : (e : Int) % 256 = (e : Int) := by have := hh.lt; omega
  have h11 : ¬ (q.length : Int) < (11 : Int) := by omega
  have he0 : ((e : Int) != 0) = true := by simpa using he
  have h11e : (q.length : Int) = 11 := by have := l2 he; omega
  have h100 : ¬ (100 : Int) < (q.length : Int) := by have := l3 ho; omega
  have ho1 : decide ((1 : Int) ≤ (op : Int)) = true := decide_eq_true (by omega)
  have ho9 : decide ((op : Int) ≤ 9) = true := decide_eq_true (by omega)
  have Hh := Lib.hid hh
  have Hk := Lib.hid hk
  clear l2 l3 hh hk ho he
  go_upto_region 8 with (first
    | (go_at_call 23; (with_reducible refine (HY.out _).mono ?_); rintro e' x4 ⟨r, rc, v, vc, p, pc, rfl, hb4⟩; have hc4 := Chain.up hc0 hb4; obtain ⟨y4, z4, hB4⟩ := two_bx x4 #[.int .u8 0, .int .u8 0, .int .u64 0, .int .u8 0, .int .u64 0, .int .u64 0, .int .i64 0, .int .u8 0, .int .u64 0, .int .u64 0, .string ⟨#[]⟩, .string ⟨#[]⟩, .int .u64 0, .int .u64 0, .int .i64 0] #[.int .u8 0, .int .u64 0, .int .u64 0, .string ⟨#[]⟩, .int .u64 0, .int .u8 0, .int .u64 0, .int .u64 0, .int .i64 0, .bool false, .bool false, .bool false, .int .u64 0, .slice none 0 0, .slice none 0 0, .slice none 0 0] 28 36)
    | (refine wpList_stB (by rfl) _ _ _ (by rfl) y4 _ _ (by rfl) (by rfl) 15 15 (by rfl) (by rfl) (by decide) infoCall (by rfl) (by rfl) ?_; intro w3 hz' hsw3; have yy4 : Bx w3 x4.heap.size 28 #[.int .u8 (op : Nat), .int .u8 (cl : Nat), V64 nu, .int .u8 0, .int .u64 0, .int .u64 0, .int .i64 0, .int .u8 0, .int .u64 0, .int .u64 0, .string ⟨#[]⟩, .string ⟨#[]⟩, .int .u64 0, .int .u64 0, .int .i64 0] := hz'; clear hz'; have zz4 := z4.but hsw3 (by omega); skip)
    | (refine wpList_stB (by rfl) _ _ _ (by rfl) zz4 _ _ (by rfl) (by rfl) 16 16 (by rfl) (by rfl) (by decide) infoAns (by rfl) (by rfl) ?_; intro w4 hz' hsw4; have zf4 : Bx w4 (x4.heap.size + 1) 36 #[.int .u8 (a.a.fam : Nat), V64 a.a.hi, V64 a.a.lo, S a.owner, V64 a.til, .int .u8 (a.pool.a.fam : Nat), V64 a.pool.a.hi, V64 a.pool.a.lo, .int .i64 a.pool.bits, .bool a.has, .bool a.held, .bool a.live, V64 a.clock, .slice r a.rows.length rc, .slice v a.events.length vc, .slice p a.pools.length pc] := hz'; clear hz'; have yf4 := yy4.but hsw4 (by omega); have hd4 := Chain.up hc4 ((hB4.trans (hsw3.below (Nat.le_refl _) hB4.size)).trans (hsw4.below (Nat.le_succ _) (by have := hB4.size; have := hsw3.size; omega))); skip))
  refine wp_region_held_drew (S := fun wx => Below w4.heap.size w4 wx) (by kernel_rfl) (Below.refl _ _).drew (fun hHeld => ?_)
  refine wpAnyH_take (i := 0) (v := ?_) rfl (by kernel_rfl) (by kernel_rfl) (by kernel_rfl) (fun _ _ _ h => h) (Or.inl ⟨by rfl, ?_⟩) hHeld ?_
  rotate_left
  · intro wq hSw; go_simp; (try with_reducible rfl)
  simp only [Act.put, List.getElem_toArray, List.getElem_cons_succ, List.getElem_cons_zero, List.setIfInBounds_toArray, List.set_cons_zero, List.set_cons_succ]
  refine wpAnyH_take (i := 1) (v := ?_) rfl (by kernel_rfl) (by kernel_rfl) (by kernel_rfl) (fun _ _ _ h => h) (Or.inl ⟨by rfl, ?_⟩) hHeld ?_
  rotate_left
  · intro wq hSw; go_simp; (try with_reducible rfl)
  simp only [Act.put, List.getElem_toArray, List.getElem_cons_succ, List.getElem_cons_zero, List.setIfInBounds_toArray, List.set_cons_zero, List.set_cons_succ]
  refine wpAnyH_take (i := 2) (v := .bool false) rfl (by kernel_rfl) (by kernel_rfl) (by kernel_rfl) (fun _ _ _ h => h) (Or.inl ⟨by rfl, ?_⟩) hHeld ?_
  · intro wq hSw; go_simp; (try (first | (with_reducible rfl) | rfl | exact hew | (intro hcon; exfalso; (first | omega | (rw [hcon] at l1; simp at l1; done))) | (simp [*]; done) | (simp [*]; omega)))
  simp only [Act.put, List.getElem_toArray, List.getElem_cons_succ, List.getElem_cons_zero, List.setIfInBounds_toArray, List.set_cons_zero, List.set_cons_succ]
  refine wpAnyH_take (i := 3) (v := ?_) rfl (by kernel_rfl) (by kernel_rfl) (by kernel_rfl) (fun _ _ _ h => h) (Or.inl ⟨by rfl, ?_⟩) hHeld ?_
  rotate_left
  · intro wq hSw; go_simp; (try with_reducible rfl)
  simp only [Act.put, List.getElem_toArray, List.getElem_cons_succ, List.getElem_cons_zero, List.setIfInBounds_toArray, List.set_cons_zero, List.set_cons_succ]
  refine wpAnyH_take (i := 4) (v := ?_) rfl (by kernel_rfl) (by kernel_rfl) (by kernel_rfl) (fun _ _ _ h => h) (Or.inl ⟨by rfl, ?_⟩) hHeld ?_
  rotate_left
  · intro wq hSw; go_simp; (try with_reducible rfl)
  simp only [Act.put, List.getElem_toArray, List.getElem_cons_succ, List.getElem_cons_zero, List.setIfInBounds_toArray, List.set_cons_zero, List.set_cons_succ]
  refine wpAnyH_take (i := 5) (v := .int .u8 (e : Nat)) rfl (by kernel_rfl) (by kernel_rfl) (by kernel_rfl) (fun _ _ _ h => h) (Or.inl ⟨by rfl, ?_⟩) hHeld ?_
  · intro wq hSw; go_simp; (try (first | (with_reducible rfl) | rfl | exact hew | (intro hcon; exfalso; (first | omega | (rw [hcon] at l1; simp at l1; done))) | (simp [*]; done) | (simp [*]; omega)))
  simp only [Act.put, List.getElem_toArray, List.getElem_cons_succ, List.getElem_cons_zero, List.setIfInBounds_toArray, List.set_cons_zero, List.set_cons_succ]
  refine wpAnyH_take (i := 6) (v := ?_) rfl (by kernel_rfl) (by kernel_rfl) (by kernel_rfl) (fun _ _ _ h => h) (Or.inl ⟨by rfl, ?_⟩) hHeld ?_
  rotate_left
  · intro wq hSw; go_simp; (try with_reducible rfl)
  simp only [Act.put, List.getElem_toArray, List.getElem_cons_succ, List.getElem_cons_zero, List.setIfInBounds_toArray, List.set_cons_zero, List.set_cons_succ]
  refine wpAnyH_take (i := 7) (v := .int .u8 (e : Nat)) rfl (by kernel_rfl) (by kernel_rfl) (by kernel_rfl) (fun _ _ _ h => h) (Or.inl ⟨by rfl, ?_⟩) hHeld ?_
  · intro wq hSw; go_simp; (try (first | (with_reducible rfl) | rfl | exact hew | (intro hcon; exfalso; (first | omega | (rw [hcon] at l1; simp at l1; done))) | (simp [*]; done) | (simp [*]; omega)))
  simp only [Act.put, List.getElem_toArray, List.getElem_cons_succ, List.getElem_cons_zero, List.setIfInBounds_toArray, List.set_cons_zero, List.set_cons_succ]
  refine wpAnyH_take (i := 8) (v := .bool false) rfl (by kernel_rfl) (by kernel_rfl) (by kernel_rfl) (fun _ _ _ h => h) (Or.inl ⟨by rfl, ?_⟩) hHeld ?_
  · intro wq hSw; go_simp; (try (first | (with_reducible rfl) | rfl | exact hew | (intro hcon; exfalso; (first | omega | (rw [hcon] at l1; simp at l1; done))) | (simp [*]; done) | (simp [*]; omega)))
  simp only [Act.put, List.getElem_toArray, List.getElem_cons_succ, List.getElem_cons_zero, List.setIfInBounds_toArray, List.set_cons_zero, List.set_cons_succ]
  refine wpAnyH_take (i := 9) (v := .bool false) rfl (by kernel_rfl) (by kernel_rfl) (by kernel_rfl) (fun _ _ _ h => h) (Or.inl ⟨by rfl, ?_⟩) hHeld ?_
  · intro wq hSw; go_simp; (try (first | (with_reducible rfl) | rfl | exact hew | (intro hcon; exfalso; (first | omega | (rw [hcon] at l1; simp at l1; done))) | (simp [*]; done) | (simp [*]; omega)))
  simp only [Act.put, List.getElem_toArray, List.getElem_cons_succ, List.getElem_cons_zero, List.setIfInBounds_toArray, List.set_cons_zero, List.set_cons_succ]
  refine wpAnyH_take (i := 10) (v := ?_) rfl (by kernel_rfl) (by kernel_rfl) (by kernel_rfl) (fun _ _ _ h => h) (Or.inl ⟨by rfl, ?_⟩) hHeld ?_
  rotate_left
  · intro wq hSw; go_simp; (try with_reducible rfl)
  simp only [Act.put, List.getElem_toArray, List.getElem_cons_succ, List.getElem_cons_zero, List.setIfInBounds_toArray, List.set_cons_zero, List.set_cons_succ]
  refine wpAnyH_take (i := 11) (v := ?_) rfl (by kernel_rfl) (by kernel_rfl) (by kernel_rfl) (fun _ _ _ h => h) (Or.inl ⟨by rfl, ?_⟩) hHeld ?_
  rotate_left
  · intro wq hSw; go_simp; (try with_reducible rfl)
  simp only [Act.put, List.getElem_toArray, List.getElem_cons_succ, List.getElem_cons_zero, List.setIfInBounds_toArray, List.set_cons_zero, List.set_cons_succ]
  refine wpAnyH_take (i := 12) (v := .int .u8 (op : Nat)) rfl (by kernel_rfl) (by kernel_rfl) (by kernel_rfl) (fun _ _ _ h => h) (Or.inl ⟨by rfl, ?_⟩) hHeld ?_
  · intro wq hSw; go_simp; (try (first | (with_reducible rfl) | rfl | exact hew | (intro hcon; exfalso; (first | omega | (rw [hcon] at l1; simp at l1; done))) | (simp [*]; done) | (simp [*]; omega)))
  simp only [Act.put, List.getElem_toArray, List.getElem_cons_succ, List.getElem_cons_zero, List.setIfInBounds_toArray, List.set_cons_zero, List.set_cons_succ]
  refine wpAnyH_take (i := 13) (v := ?_) rfl (by kernel_rfl) (by kernel_rfl) (by kernel_rfl) (fun _ _ _ h => h) (Or.inl ⟨by rfl, ?_⟩) hHeld ?_
  rotate_left
  · intro wq hSw; go_simp; (try with_reducible rfl)
  simp only [Act.put, List.getElem_toArray, List.getElem_cons_succ, List.getElem_cons_zero, List.setIfInBounds_toArray, List.set_cons_zero, List.set_cons_succ]
  refine wpAnyH_take (i := 14) (v := ?_) rfl (by kernel_rfl) (by kernel_rfl) (by kernel_rfl) (fun _ _ _ h => h) (Or.inl ⟨by rfl, ?_⟩) hHeld ?_
  rotate_left
  · intro wq hSw; have hq := (yf4.up hSw).cell 0; simp only [List.getElem?_toArray, List.getElem?_cons_succ, List.getElem?_cons_zero] at hq; go_simp; (try with_reducible rfl)
  simp only [Act.put, List.getElem_toArray, List.getElem_cons_succ, List.getElem_cons_zero, List.setIfInBounds_toArray, List.set_cons_zero, List.set_cons_succ]
  refine wpAnyH_take (i := 15) (v := .bool false) rfl (by kernel_rfl) (by kernel_rfl) (by kernel_rfl) (fun _ _ _ h => h) (Or.inl ⟨by rfl, ?_⟩) hHeld ?_
  · intro wq hSw; go_simp; (try (first | (with_reducible rfl) | rfl | exact hew | (intro hcon; exfalso; (first | omega | (rw [hcon] at l1; simp at l1; done))) | (simp [*]; done) | (simp [*]; omega)))
  simp only [Act.put, List.getElem_toArray, List.getElem_cons_succ, List.getElem_cons_zero, List.setIfInBounds_toArray, List.set_cons_zero, List.set_cons_succ]
  refine wpAnyH_take (i := 16) (v := .bool false) rfl (by kernel_rfl) (by kernel_rfl) (by kernel_rfl) (fun _ _ _ h => h) (Or.inl ⟨by rfl, ?_⟩) hHeld ?_
  · intro wq hSw; go_simp; (try (first | (with_reducible rfl) | rfl | exact hew | (intro hcon; exfalso; (first | omega | (rw [hcon] at l1; simp at l1; done))) | (simp [*]; done) | (simp [*]; omega)))
  simp only [Act.put, List.getElem_toArray, List.getElem_cons_succ, List.getElem_cons_zero, List.setIfInBounds_toArray, List.set_cons_zero, List.set_cons_succ]
  refine wpAnyH_take (i := 17) (v := ?_) rfl (by kernel_rfl) (by kernel_rfl) (by kernel_rfl) (fun _ _ _ h => h) (Or.inl ⟨by rfl, ?_⟩) hHeld ?_
  rotate_left
  · intro wq hSw; go_simp; (try with_reducible rfl)
  simp only [Act.put, List.getElem_toArray, List.getElem_cons_succ, List.getElem_cons_zero, List.setIfInBounds_toArray, List.set_cons_zero, List.set_cons_succ]
  refine wpAnyH_take (i := 18) (v := ?_) rfl (by kernel_rfl) (by kernel_rfl) (by kernel_rfl) (fun _ _ _ h => h) (Or.inl ⟨by rfl, ?_⟩) hHeld ?_
  rotate_left
  · intro wq hSw; go_simp; (try with_reducible rfl)
  simp only [Act.put, List.getElem_toArray, List.getElem_cons_succ, List.getElem_cons_zero, List.setIfInBounds_toArray, List.set_cons_zero, List.set_cons_succ]
  refine wpAnyH_take (i := 19) (v := .int .u8 (cl : Nat)) rfl (by kernel_rfl) (by kernel_rfl) (by kernel_rfl) (fun _ _ _ h => h) (Or.inl ⟨by rfl, ?_⟩) hHeld ?_
  · intro wq hSw; go_simp; (try (first | (with_reducible rfl) | rfl | exact hew | (intro hcon; exfalso; (first | omega | (rw [hcon] at l1; simp at l1; done))) | (simp [*]; done) | (simp [*]; omega)))
  simp only [Act.put, List.getElem_toArray, List.getElem_cons_succ, List.getElem_cons_zero, List.setIfInBounds_toArray, List.set_cons_zero, List.set_cons_succ]
  refine wpAnyH_take (i := 20) (v := ?_) rfl (by kernel_rfl) (by kernel_rfl) (by kernel_rfl) (fun _ _ _ h => h) (Or.inl ⟨by rfl, ?_⟩) hHeld ?_
  rotate_left
  · intro wq hSw; go_simp; (try with_reducible rfl)
  simp only [Act.put, List.getElem_toArray, List.getElem_cons_succ, List.getElem_cons_zero, List.setIfInBounds_toArray, List.set_cons_zero, List.set_cons_succ]
  refine wpAnyH_take (i := 21) (v := ?_) rfl (by kernel_rfl) (by kernel_rfl) (by kernel_rfl) (fun _ _ _ h => h) (Or.inl ⟨by rfl, ?_⟩) hHeld ?_
  rotate_left
  · intro wq hSw; have hq := (yf4.up hSw).cell 1; simp only [List.getElem?_toArray, List.getElem?_cons_succ, List.getElem?_cons_zero] at hq; go_simp; (try with_reducible rfl)
  simp only [Act.put, List.getElem_toArray, List.getElem_cons_succ, List.getElem_cons_zero, List.setIfInBounds_toArray, List.set_cons_zero, List.set_cons_succ]
  refine wpAnyH_take (i := 22) (v := .bool false) rfl (by kernel_rfl) (by kernel_rfl) (by kernel_rfl) (fun _ _ _ h => h) (Or.inl ⟨by rfl, ?_⟩) hHeld ?_
  · intro wq hSw; go_simp; (try (first | (with_reducible rfl) | rfl | exact hew | (intro hcon; exfalso; (first | omega | (rw [hcon] at l1; simp at l1; done))) | (simp [*]; done) | (simp [*]; omega)))
  simp only [Act.put, List.getElem_toArray, List.getElem_cons_succ, List.getElem_cons_zero, List.setIfInBounds_toArray, List.set_cons_zero, List.set_cons_succ]
  refine wpAnyH_take (i := 23) (v := .bool false) rfl (by kernel_rfl) (by kernel_rfl) (by kernel_rfl) (fun _ _ _ h => h) (Or.inl ⟨by rfl, ?_⟩) hHeld ?_
  · intro wq hSw; go_simp; (try (first | (with_reducible rfl) | rfl | exact hew | (intro hcon; exfalso; (first | omega | (rw [hcon] at l1; simp at l1; done))) | (simp [*]; done) | (simp [*]; omega)))
  simp only [Act.put, List.getElem_toArray, List.getElem_cons_succ, List.getElem_cons_zero, List.setIfInBounds_toArray, List.set_cons_zero, List.set_cons_succ]
  refine wpAnyH_take (i := 24) (v := ?_) rfl (by kernel_rfl) (by kernel_rfl) (by kernel_rfl) (fun _ _ _ h => h) (Or.inl ⟨by rfl, ?_⟩) hHeld ?_
  rotate_left
  · intro wq hSw; go_simp; (try with_reducible rfl)
  simp only [Act.put, List.getElem_toArray, List.getElem_cons_succ, List.getElem_cons_zero, List.setIfInBounds_toArray, List.set_cons_zero, List.set_cons_succ]
  refine wpAnyH_take (i := 25) (v := ?_) rfl (by kernel_rfl) (by kernel_rfl) (by kernel_rfl) (fun _ _ _ h => h) (Or.inl ⟨by rfl, ?_⟩) hHeld ?_
  rotate_left
  · intro wq hSw; go_simp; (try with_reducible rfl)
  simp only [Act.put, List.getElem_toArray, List.getElem_cons_succ, List.getElem_cons_zero, List.setIfInBounds_toArray, List.set_cons_zero, List.set_cons_succ]
  refine wpAnyH_take (i := 26) (v := .bool true) rfl (by kernel_rfl) (by kernel_rfl) (by kernel_rfl) (fun _ _ _ h => h) (Or.inl ⟨by rfl, ?_⟩) hHeld ?_
  · intro wq hSw; go_simp; (try (first | (with_reducible rfl) | rfl | exact hew | (intro hcon; exfalso; (first | omega | (rw [hcon] at l1; simp at l1; done))) | (simp [*]; done) | (simp [*]; omega)))
  simp only [Act.put, List.getElem_toArray, List.getElem_cons_succ, List.getElem_cons_zero, List.setIfInBounds_toArray, List.set_cons_zero, List.set_cons_succ]
  refine wpAnyH_take (i := 27) (v := ?_) rfl (by kernel_rfl) (by kernel_rfl) (by kernel_rfl) (fun _ _ _ h => h) (Or.inl ⟨by rfl, ?_⟩) hHeld ?_
  rotate_left
  · intro wq hSw; go_simp; (try with_reducible rfl)
  simp only [Act.put, List.getElem_toArray, List.getElem_cons_succ, List.getElem_cons_zero, List.setIfInBounds_toArray, List.set_cons_zero, List.set_cons_succ]
  refine wpAnyH_take (i := 28) (v := ?_) rfl (by kernel_rfl) (by kernel_rfl) (by kernel_rfl) (fun _ _ _ h => h) (Or.inl ⟨by rfl, ?_⟩) hHeld ?_
  rotate_left
  · intro wq hSw; go_simp; (try with_reducible rfl)
  simp only [Act.put, List.getElem_toArray, List.getElem_cons_succ, List.getElem_cons_zero, List.setIfInBounds_toArray, List.set_cons_zero, List.set_cons_succ]
  refine wpAnyH_take (i := 29) (v := ?_) rfl (by kernel_rfl) (by kernel_rfl) (by kernel_rfl) (fun _ _ _ h => h) (Or.inl ⟨by rfl, ?_⟩) hHeld ?_
  rotate_left
  · intro wq hSw; go_simp; (try with_reducible rfl)
  simp only [Act.put, List.getElem_toArray, List.getElem_cons_succ, List.getElem_cons_zero, List.setIfInBounds_toArray, List.set_cons_zero, List.set_cons_succ]
  refine wpAnyH_take (i := 30) (v := .bool false) rfl (by kernel_rfl) (by kernel_rfl) (by kernel_rfl) (fun _ _ _ h => h) (Or.inl ⟨by rfl, ?_⟩) hHeld ?_
  · intro wq hSw; go_simp; (try (first | (with_reducible rfl) | rfl | exact hew | (intro hcon; exfalso; (first | omega | (rw [hcon] at l1; simp at l1; done))) | (simp [*]; done) | (simp [*]; omega)))
  simp only [Act.put, List.getElem_toArray, List.getElem_cons_succ, List.getElem_cons_zero, List.setIfInBounds_toArray, List.set_cons_zero, List.set_cons_succ]
  refine wpAnyH_take (i := 31) (v := .bool false) rfl (by kernel_rfl) (by kernel_rfl) (by kernel_rfl) (fun _ _ _ h => h) (Or.inl ⟨by rfl, ?_⟩) hHeld ?_
  · intro wq hSw; go_simp; (try (first | (with_reducible rfl) | rfl | exact hew | (intro hcon; exfalso; (first | omega | (rw [hcon] at l1; simp at l1; done))) | (simp [*]; done) | (simp [*]; omega)))
  simp only [Act.put, List.getElem_toArray, List.getElem_cons_succ, List.getElem_cons_zero, List.setIfInBounds_toArray, List.set_cons_zero, List.set_cons_succ]
  refine wpAnyH_take (i := 32) (v := .bool false) rfl (by kernel_rfl) (by kernel_rfl) (by kernel_rfl) (fun _ _ _ h => h) (Or.inl ⟨by rfl, ?_⟩) hHeld ?_
  · intro wq hSw; go_simp; (try (first | (with_reducible rfl) | rfl | exact hew | (intro hcon; exfalso; (first | omega | (rw [hcon] at l1; simp at l1; done))) | (simp [*]; done) | (simp [*]; omega)))
  simp only [Act.put, List.getElem_toArray, List.getElem_cons_succ, List.getElem_cons_zero, List.setIfInBounds_toArray, List.set_cons_zero, List.set_cons_succ]
  refine wpAnyH_take (i := 33) (v := ?_) rfl (by kernel_rfl) (by kernel_rfl) (by kernel_rfl) (fun _ _ _ h => h) (Or.inl ⟨by rfl, ?_⟩) hHeld ?_
  rotate_left
  · intro wq hSw; go_simp; (try with_reducible rfl)
  simp only [Act.put, List.getElem_toArray, List.getElem_cons_succ, List.getElem_cons_zero, List.setIfInBounds_toArray, List.set_cons_zero, List.set_cons_succ]
  refine wpAnyH_take (i := 34) (v := ?_) rfl (by kernel_rfl) (by kernel_rfl) (by kernel_rfl) (fun _ _ _ h => h) (Or.inl ⟨by rfl, ?_⟩) hHeld ?_
  rotate_left
  · intro wq hSw; go_simp; (try with_reducible rfl)
  simp only [Act.put, List.getElem_toArray, List.getElem_cons_succ, List.getElem_cons_zero, List.setIfInBounds_toArray, List.set_cons_zero, List.set_cons_succ]
  refine wpAnyH_take (i := 35) (v := ?_) rfl (by kernel_rfl) (by kernel_rfl) (by kernel_rfl) (fun _ _ _ h => h) (Or.inl ⟨by rfl, ?_⟩) hHeld ?_
  rotate_left
  · intro wq hSw; have hq := (yf4.up hSw).cell 0; simp only [List.getElem?_toArray, List.getElem?_cons_succ, List.getElem?_cons_zero] at hq; go_simp; (try with_reducible rfl)
  simp only [Act.put, List.getElem_toArray, List.getElem_cons_succ, List.getElem_cons_zero, List.setIfInBounds_toArray, List.set_cons_zero, List.set_cons_succ]
  refine wpAnyH_take (i := 36) (v := .bool true) rfl (by kernel_rfl) (by kernel_rfl) (by kernel_rfl) (fun _ _ _ h => h) (Or.inl ⟨by rfl, ?_⟩) hHeld ?_
  · intro wq hSw; go_simp; (try (first | (with_reducible rfl) | rfl | exact hew | (intro hcon; exfalso; (first | omega | (rw [hcon] at l1; simp at l1; done))) | (simp [*]; done) | (simp [*]; omega)))
  simp only [Act.put, List.getElem_toArray, List.getElem_cons_succ, List.getElem_cons_zero, List.setIfInBounds_toArray, List.set_cons_zero, List.set_cons_succ]
  refine wpAnyH_take (i := 37) (v := ?_) rfl (by kernel_rfl) (by kernel_rfl) (by kernel_rfl) (fun _ _ _ h => h) (Or.inl ⟨by rfl, ?_⟩) hHeld ?_
  rotate_left
  · intro wq hSw; go_simp; (try with_reducible rfl)
  simp only [Act.put, List.getElem_toArray, List.getElem_cons_succ, List.getElem_cons_zero, List.setIfInBounds_toArray, List.set_cons_zero, List.set_cons_succ]
  refine wpAnyH_take (i := 38) (v := ?_) rfl (by kernel_rfl) (by kernel_rfl) (by kernel_rfl) (fun _ _ _ h => h) (Or.inl ⟨by rfl, ?_⟩) hHeld ?_
  rotate_left
  · intro wq hSw; go_simp; (try with_reducible rfl)
  simp only [Act.put, List.getElem_toArray, List.getElem_cons_succ, List.getElem_cons_zero, List.setIfInBounds_toArray, List.set_cons_zero, List.set_cons_succ]
  refine wpAnyH_take (i := 39) (v := ?_) rfl (by kernel_rfl) (by kernel_rfl) (by kernel_rfl) (fun _ _ _ h => h) (Or.inl ⟨by rfl, ?_⟩) hHeld ?_
  rotate_left
  · intro wq hSw; have hq := (yf4.up hSw).cell 0; simp only [List.getElem?_toArray, List.getElem?_cons_succ, List.getElem?_cons_zero] at hq; go_simp; (try with_reducible rfl)
  simp only [Act.put, List.getElem_toArray, List.getElem_cons_succ, List.getElem_cons_zero, List.setIfInBounds_toArray, List.set_cons_zero, List.set_cons_succ]
  refine wpAnyH_take (i := 40) (v := .bool true) rfl (by kernel_rfl) (by kernel_rfl) (by kernel_rfl) (fun _ _ _ h => h) (Or.inl ⟨by rfl, ?_⟩) hHeld ?_
  · intro wq hSw; go_simp; (try (first | (with_reducible rfl) | rfl | exact hew | (intro hcon; exfalso; (first | omega | (rw [hcon] at l1; simp at l1; done))) | (simp [*]; done) | (simp [*]; omega)))
  simp only [Act.put, List.getElem_toArray, List.getElem_cons_succ, List.getElem_cons_zero, List.setIfInBounds_toArray, List.set_cons_zero, List.set_cons_succ]
  refine wpAnyH_take (i := 41) (v := .bool true) rfl (by kernel_rfl) (by kernel_rfl) (by kernel_rfl) (fun _ _ _ h => h) (Or.inl ⟨by rfl, ?_⟩) hHeld ?_
  · intro wq hSw; go_simp; (try (first | (with_reducible rfl) | rfl | exact hew | (intro hcon; exfalso; (first | omega | (rw [hcon] at l1; simp at l1; done))) | (simp [*]; done) | (simp [*]; omega)))
  simp only [Act.put, List.getElem_toArray, List.getElem_cons_succ, List.getElem_cons_zero, List.setIfInBounds_toArray, List.set_cons_zero, List.set_cons_succ]
  refine wpAnyH_take (i := 42) (v := ?_) rfl (by kernel_rfl) (by kernel_rfl) (by kernel_rfl) (fun _ _ _ h => h) (Or.inl ⟨by rfl, ?_⟩) hHeld ?_
  rotate_left
  · intro wq hSw; go_simp; (try with_reducible rfl)
  simp only [Act.put, List.getElem_toArray, List.getElem_cons_succ, List.getElem_cons_zero, List.setIfInBounds_toArray, List.set_cons_zero, List.set_cons_succ]
  refine wpAnyH_take (i := 43) (v := ?_) rfl (by kernel_rfl) (by kernel_rfl) (by kernel_rfl) (fun _ _ _ h => h) (Or.inl ⟨by rfl, ?_⟩) hHeld ?_
  rotate_left
  · intro wq hSw; go_simp; (try with_reducible rfl)
  simp only [Act.put, List.getElem_toArray, List.getElem_cons_succ, List.getElem_cons_zero, List.setIfInBounds_toArray, List.set_cons_zero, List.set_cons_succ]
  refine wpAnyH_take (i := 44) (v := ?_) rfl (by kernel_rfl) (by kernel_rfl) (by kernel_rfl) (fun _ _ _ h => h) (Or.inl ⟨by rfl, ?_⟩) hHeld ?_
  rotate_left
  · intro wq hSw; go_simp; (try with_reducible rfl)
  simp only [Act.put, List.getElem_toArray, List.getElem_cons_succ, List.getElem_cons_zero, List.setIfInBounds_toArray, List.set_cons_zero, List.set_cons_succ]
  refine wpAnyH_take (i := 45) (v := .bool false) rfl (by kernel_rfl) (by kernel_rfl) (by kernel_rfl) (fun _ _ _ h => h) (Or.inl ⟨by rfl, ?_⟩) hHeld ?_
  · intro wq hSw; go_simp; (try (first | (with_reducible rfl) | rfl | exact hew | (intro hcon; exfalso; (first | omega | (rw [hcon] at l1; simp at l1; done))) | (simp [*]; done) | (simp [*]; omega)))
  simp only [Act.put, List.getElem_toArray, List.getElem_cons_succ, List.getElem_cons_zero, List.setIfInBounds_toArray, List.set_cons_zero, List.set_cons_succ]
  refine wpAnyH_take (i := 46) (v := .bool false) rfl (by kernel_rfl) (by kernel_rfl) (by kernel_rfl) (fun _ _ _ h => h) (Or.inl ⟨by rfl, ?_⟩) hHeld ?_
  · intro wq hSw; go_simp; (try (first | (with_reducible rfl) | rfl | exact hew | (intro hcon; exfalso; (first | omega | (rw [hcon] at l1; simp at l1; done))) | (simp [*]; done) | (simp [*]; omega)))
  simp only [Act.put, List.getElem_toArray, List.getElem_cons_succ, List.getElem_cons_zero, List.setIfInBounds_toArray, List.set_cons_zero, List.set_cons_succ]
  refine wpAnyH_take (i := 47) (v := .bool false) rfl (by kernel_rfl) (by kernel_rfl) (by kernel_rfl) (fun _ _ _ h => h) (Or.inl ⟨by rfl, ?_⟩) hHeld ?_
  · intro wq hSw; go_simp; (try (first | (with_reducible rfl) | rfl | exact hew | (intro hcon; exfalso; (first | omega | (rw [hcon] at l1; simp at l1; done))) | (simp [*]; done) | (simp [*]; omega)))
  simp only [Act.put, List.getElem_toArray, List.getElem_cons_succ, List.getElem_cons_zero, List.setIfInBounds_toArray, List.set_cons_zero, List.set_cons_succ]
  refine wpAnyH_done (by kernel_rfl) ?_ _
  rename_i K1 hK1 K0 hK0
  show K0 _ _
  refine hK0 _ _ ?_
  refine wp_cond_false (by rfl) (wp_skip ?_)
  show K1 _ _
  refine hK1 _ _ ?_
  exact (short_tail q z t w _ x4.heap.size op cl nu e a r v p rc vc pc _ _ _ _ _ _ _ _ _ _ _ _ _ _ _ _ _ _ _ _ _ _ _ _ _ _ _ _ _ _ _ _ _ _ _ _ _ _ _ _ _ _ _ _ _ _ _ _ _ _ _ _ _ _ _ _ _ _ _ _ _ _ _ _ _ _ _ _ _ _ _ _ _ _ _ _ _ _ _ _ _ _ _ _ _ _ _ _ _ _ _ _ _ _ _ _ _ _ _ _ _ _ _ _ _ _ _ _ _ _ _ _ _ _ _ _ _ _ _ _ _ _ _ _ _ _ _ _ _ _ _ _ _ _ _ _ _ _ _ _ _ hql hz hl hu Hk.out Hh.out yf4.drew zf4.drew hd4.drew)

set_option maxRecDepth 1000000 in
set_option maxHeartbeats 16000000 in
theorem short_02 (q : List UInt8) (z : Nat) (t : List UInt8) (w : World) (u3 u4 u5 u6 u7 u8 u9 u10 u11 u12 u13 u14 u15 u16 u17 u18 u19 u20 u21 u22 u23 u24 u25 u26 u27 u28 u29 u30 u31 u32 u33 u34 u35 u36 u37 u38 u39 u40 u41 u42 u43 u44 u45 u46 u47 u48 u49 u50 u51 u52 u53 u54 u55 u56 u57 u58 u59 u60 u61 u62 u63 u64 u65 u66 u67 u68 u69 u70 u71 u72 u73 u74 u75 u76 u77 u78 u79 u80 u81 u82 u83 u84 u85 u86 u87 u88 u89 u90 u91 u92 u93 u94 u95 u96 u97 u98 u99 u100 u101 u102 u103 u104 u105 u106 u107 u108 u109 u110 u111 u112 u113 u114 u115 u116 u117 u118 u119 u120 u121 u122 u123 u124 u125 u126 u127 u128 u129 u130 u131 u132 u133 u134 u135 u136 u137 u138 u139 u140 u141 u142 u143 u144 u145 : Value) (hql : q.length ≤ 2000) (hz : z < 65536) (hl : t.length ≤ 100) (hu : UsesOk w) (hk : P.hearOk q = true) (op cl nu e : Nat) (a : P.An) (hh : P.Heard q op cl nu a e) (he : e ≠ 0) (ho : 9 < op) :
    Code.wp Tryd.prog restS5 (bodyPost Tryd.prog Tryd.f8 fun e' w' => e' = .returned (.bool true) ∧ Below w.heap.size w w') ⟨#[S q, .int .u16 (z : Int), S t, u3, u4, u5, u6, u7, u8, u9, u10, u11, u12, u13, u14, u15, u16, u17, u18, u19, u20, u21, u22, u23, u24, u25, u26, u27, u28, u29, u30, u31, u32, u33, u34, u35, u36, u37, u38, u39, u40, u41, u42, u43, u44, u45, u46, u47, u48, u49, u50, u51, u52, u53, u54, u55, u56, u57, u58, u59, u60, u61, u62, u63, u64, u65, u66, u67, u68, u69, u70, u71, u72, u73, u74, u75, u76, u77, u78, u79, u80, u81, u82, u83, u84, u85, u86, u87, u88, u89, u90, u91, u92, u93, u94, u95, u96, u97, u98, u99, u100, u101, u102, u103, u104, u105, u106, u107, u108, u109, u110, u111, u112, u113, u114, u115, u116, u117, u118, u119, u120, u121, u122, u123, u124, u125, u126, u127, u128, u129, u130, u131, u132, u133, u134, u135, u136, u137, u138, u139, u140, u141, u142, u143, u144, u145], []⟩ w := by
  conv => arg 2; whnf
  have hc0 := Below.refl w.heap.size w
  obtain ⟨l1, l2, l3⟩ := hh.len
  have HY := Lib.hid (fun wx => hear_yes (by omega) hh hk wx)
  have hb0 : ((ByteArray.mk q.toArray)[0]'(by show 0 < q.toArray.size; simp; omega)).toNat = e := by obtain ⟨r, hr⟩ := hh.cons; subst hr; show (P.byt e).toNat = e; rw [P.byt_toNat]; have := hh.lt; omega
  have hb1 : ((ByteArray.mk q.toArray)[1]'(by show 1 < q.toArray.size; simp; omega)).toNat = op := by obtain ⟨r, hr⟩ := hh.cons; subst hr; show (P.byt op).toNat = op; rw [P.byt_toNat]; have := hh.op'; omega
  have hb2 : ((ByteArray.mk q.toArray)[2]'(by show 2 < q.toArray.size; simp; omega)).toNat = cl := by obtain ⟨r, hr⟩ := hh.cons; subst hr; show (P.byt cl).toNat = cl; rw [P.byt_toNat]; have := hh.cl'; omega
  have hew : IntKind.u8.wrap (e : Int) = (e : Int) := by
    have := hh.lt
    unfold IntKind.wrap
    simp [IntKind.signed, IntKind.bits]
    omega
  have hem : (e : Int) % 256 = (e : Int) := by have := hh.lt; omega
  have h11 : ¬ (q.length : Int) < (11 : Int) := by omega
  have he0 : ((e : Int) != 0) = true := by simpa using he
  have h11e : (q.length : Int) = 11 := by have := l2 he; omega
  have ho1 : decide ((1 : Int) ≤ (op : Int)) = true := decide_eq_true (by omega)
  have ho9 : decide ((op : Int) ≤ 9) = false := decide_eq_false (by omega)
  have Hh := Lib.hid hh
  have Hk := Lib.hid hk
  clear l2 l3 hh hk ho he
  go_upto_region 8 with (first
    | (go_at_call 23; (with_reducible refine (HY.out _).mono ?_); rintro e' x4 ⟨r, rc, v, vc, p, pc, rfl, hb4⟩; have hc4 := Chain.up hc0 hb4; obtain ⟨y4, z4, hB4⟩ := two_bx x4 #[.int .u8 0, .int .u8 0, .int .u64 0, .int .u8 0, .int .u64 0, .int .u64 0, .int .i64 0, .int .u8 0, .int .u64 0, .int .u64 0, .string ⟨#[]⟩, .string ⟨#[]⟩, .int .u64 0, .int .u64 0, .int .i64 0] #[.int .u8 0, .int .u64 0, .int .u64 0, .string ⟨#[]⟩, .int .u64 0, .int .u8 0, .int .u64 0, .int .u64 0, .int .i64 0, .bool false, .bool false, .bool false, .int .u64 0, .slice none 0 0, .slice none 0 0, .slice none 0 0] 28 36)
    | (refine wpList_stB (by rfl) _ _ _ (by rfl) y4 _ _ (by rfl) (by rfl) 15 15 (by rfl) (by rfl) (by decide) infoCall (by rfl) (by rfl) ?_; intro w3 hz' hsw3; have yy4 : Bx w3 x4.heap.size 28 #[.int .u8 (op : Nat), .int .u8 (cl : Nat), V64 nu, .int .u8 0, .int .u64 0, .int .u64 0, .int .i64 0, .int .u8 0, .int .u64 0, .int .u64 0, .string ⟨#[]⟩, .string ⟨#[]⟩, .int .u64 0, .int .u64 0, .int .i64 0] := hz'; clear hz'; have zz4 := z4.but hsw3 (by omega); skip)
    | (refine wpList_stB (by rfl) _ _ _ (by rfl) zz4 _ _ (by rfl) (by rfl) 16 16 (by rfl) (by rfl) (by decide) infoAns (by rfl) (by rfl) ?_; intro w4 hz' hsw4; have zf4 : Bx w4 (x4.heap.size + 1) 36 #[.int .u8 (a.a.fam : Nat), V64 a.a.hi, V64 a.a.lo, S a.owner, V64 a.til, .int .u8 (a.pool.a.fam : Nat), V64 a.pool.a.hi, V64 a.pool.a.lo, .int .i64 a.pool.bits, .bool a.has, .bool a.held, .bool a.live, V64 a.clock, .slice r a.rows.length rc, .slice v a.events.length vc, .slice p a.pools.length pc] := hz'; clear hz'; have yf4 := yy4.but hsw4 (by omega); have hd4 := Chain.up hc4 ((hB4.trans (hsw3.below (Nat.le_refl _) hB4.size)).trans (hsw4.below (Nat.le_succ _) (by have := hB4.size; have := hsw3.size; omega))); skip))
  refine wp_region_held_drew (S := fun wx => Below w4.heap.size w4 wx) (by kernel_rfl) (Below.refl _ _).drew (fun hHeld => ?_)
  refine wpAnyH_take (i := 0) (v := ?_) rfl (by kernel_rfl) (by kernel_rfl) (by kernel_rfl) (fun _ _ _ h => h) (Or.inl ⟨by rfl, ?_⟩) hHeld ?_
  rotate_left
  · intro wq hSw; go_simp; (try with_reducible rfl)
  simp only [Act.put, List.getElem_toArray, List.getElem_cons_succ, List.getElem_cons_zero, List.setIfInBounds_toArray, List.set_cons_zero, List.set_cons_succ]
  refine wpAnyH_take (i := 1) (v := ?_) rfl (by kernel_rfl) (by kernel_rfl) (by kernel_rfl) (fun _ _ _ h => h) (Or.inl ⟨by rfl, ?_⟩) hHeld ?_
  rotate_left
  · intro wq hSw; go_simp; (try with_reducible rfl)
  simp only [Act.put, List.getElem_toArray, List.getElem_cons_succ, List.getElem_cons_zero, List.setIfInBounds_toArray, List.set_cons_zero, List.set_cons_succ]
  refine wpAnyH_take (i := 2) (v := .bool false) rfl (by kernel_rfl) (by kernel_rfl) (by kernel_rfl) (fun _ _ _ h => h) (Or.inl ⟨by rfl, ?_⟩) hHeld ?_
  · intro wq hSw; go_simp; (try (first | (with_reducible rfl) | rfl | exact hew | (intro hcon; exfalso; (first | omega | (rw [hcon] at l1; simp at l1; done))) | (simp [*]; done) | (simp [*]; omega)))
  simp only [Act.put, List.getElem_toArray, List.getElem_cons_succ, List.getElem_cons_zero, List.setIfInBounds_toArray, List.set_cons_zero, List.set_cons_succ]
  refine wpAnyH_take (i := 3) (v := ?_) rfl (by kernel_rfl) (by kernel_rfl) (by kernel_rfl) (fun _ _ _ h => h) (Or.inl ⟨by rfl, ?_⟩) hHeld ?_
  rotate_left
  · intro wq hSw; go_simp; (try with_reducible rfl)
  simp only [Act.put, List.getElem_toArray, List.getElem_cons_succ, List.getElem_cons_zero, List.setIfInBounds_toArray, List.set_cons_zero, List.set_cons_succ]
  refine wpAnyH_take (i := 4) (v := ?_) rfl (by kernel_rfl) (by kernel_rfl) (by kernel_rfl) (fun _ _ _ h => h) (Or.inl ⟨by rfl, ?_⟩) hHeld ?_
  rotate_left
  · intro wq hSw; go_simp; (try with_reducible rfl)
  simp only [Act.put, List.getElem_toArray, List.getElem_cons_succ, List.getElem_cons_zero, List.setIfInBounds_toArray, List.set_cons_zero, List.set_cons_succ]
  refine wpAnyH_take (i := 5) (v := .int .u8 (e : Nat)) rfl (by kernel_rfl) (by kernel_rfl) (by kernel_rfl) (fun _ _ _ h => h) (Or.inl ⟨by rfl, ?_⟩) hHeld ?_
  · intro wq hSw; go_simp; (try (first | (with_reducible rfl) | rfl | exact hew | (intro hcon; exfalso; (first | omega | (rw [hcon] at l1; simp at l1; done))) | (simp [*]; done) | (simp [*]; omega)))
  simp only [Act.put, List.getElem_toArray, List.getElem_cons_succ, List.getElem_cons_zero, List.setIfInBounds_toArray, List.set_cons_zero, List.set_cons_succ]
  refine wpAnyH_take (i := 6) (v := ?_) rfl (by kernel_rfl) (by kernel_rfl) (by kernel_rfl) (fun _ _ _ h => h) (Or.inl ⟨by rfl, ?_⟩) hHeld ?_
  rotate_left
  · intro wq hSw; go_simp; (try with_reducible rfl)
  simp only [Act.put, List.getElem_toArray, List.getElem_cons_succ, List.getElem_cons_zero, List.setIfInBounds_toArray, List.set_cons_zero, List.set_cons_succ]
  refine wpAnyH_take (i := 7) (v := .int .u8 (e : Nat)) rfl (by kernel_rfl) (by kernel_rfl) (by kernel_rfl) (fun _ _ _ h => h) (Or.inl ⟨by rfl, ?_⟩) hHeld ?_
  · intro wq hSw; go_simp; (try (first | (with_reducible rfl) | rfl | exact hew | (intro hcon; exfalso; (first | omega | (rw [hcon] at l1; simp at l1; done))) | (simp [*]; done) | (simp [*]; omega)))
  simp only [Act.put, List.getElem_toArray, List.getElem_cons_succ, List.getElem_cons_zero, List.setIfInBounds_toArray, List.set_cons_zero, List.set_cons_succ]
  refine wpAnyH_take (i := 8) (v := .bool false) rfl (by kernel_rfl) (by kernel_rfl) (by kernel_rfl) (fun _ _ _ h => h) (Or.inl ⟨by rfl, ?_⟩) hHeld ?_
  · intro wq hSw; go_simp; (try (first | (with_reducible rfl) | rfl | exact hew | (intro hcon; exfalso; (first | omega | (rw [hcon] at l1; simp at l1; done))) | (simp [*]; done) | (simp [*]; omega)))
  simp only [Act.put, List.getElem_toArray, List.getElem_cons_succ, List.getElem_cons_zero, List.setIfInBounds_toArray, List.set_cons_zero, List.set_cons_succ]
  refine wpAnyH_take (i := 9) (v := .bool false) rfl (by kernel_rfl) (by kernel_rfl) (by kernel_rfl) (fun _ _ _ h => h) (Or.inl ⟨by rfl, ?_⟩) hHeld ?_
  · intro wq hSw; go_simp; (try (first | (with_reducible rfl) | rfl | exact hew | (intro hcon; exfalso; (first | omega | (rw [hcon] at l1; simp at l1; done))) | (simp [*]; done) | (simp [*]; omega)))
  simp only [Act.put, List.getElem_toArray, List.getElem_cons_succ, List.getElem_cons_zero, List.setIfInBounds_toArray, List.set_cons_zero, List.set_cons_succ]
  refine wpAnyH_take (i := 10) (v := ?_) rfl (by kernel_rfl) (by kernel_rfl) (by kernel_rfl) (fun _ _ _ h => h) (Or.inl ⟨by rfl, ?_⟩) hHeld ?_
  rotate_left
  · intro wq hSw; go_simp; (try with_reducible rfl)
  simp only [Act.put, List.getElem_toArray, List.getElem_cons_succ, List.getElem_cons_zero, List.setIfInBounds_toArray, List.set_cons_zero, List.set_cons_succ]
  refine wpAnyH_take (i := 11) (v := ?_) rfl (by kernel_rfl) (by kernel_rfl) (by kernel_rfl) (fun _ _ _ h => h) (Or.inl ⟨by rfl, ?_⟩) hHeld ?_
  rotate_left
  · intro wq hSw; go_simp; (try with_reducible rfl)
  simp only [Act.put, List.getElem_toArray, List.getElem_cons_succ, List.getElem_cons_zero, List.setIfInBounds_toArray, List.set_cons_zero, List.set_cons_succ]
  refine wpAnyH_take (i := 12) (v := .int .u8 (op : Nat)) rfl (by kernel_rfl) (by kernel_rfl) (by kernel_rfl) (fun _ _ _ h => h) (Or.inl ⟨by rfl, ?_⟩) hHeld ?_
  · intro wq hSw; go_simp; (try (first | (with_reducible rfl) | rfl | exact hew | (intro hcon; exfalso; (first | omega | (rw [hcon] at l1; simp at l1; done))) | (simp [*]; done) | (simp [*]; omega)))
  simp only [Act.put, List.getElem_toArray, List.getElem_cons_succ, List.getElem_cons_zero, List.setIfInBounds_toArray, List.set_cons_zero, List.set_cons_succ]
  refine wpAnyH_take (i := 13) (v := ?_) rfl (by kernel_rfl) (by kernel_rfl) (by kernel_rfl) (fun _ _ _ h => h) (Or.inl ⟨by rfl, ?_⟩) hHeld ?_
  rotate_left
  · intro wq hSw; go_simp; (try with_reducible rfl)
  simp only [Act.put, List.getElem_toArray, List.getElem_cons_succ, List.getElem_cons_zero, List.setIfInBounds_toArray, List.set_cons_zero, List.set_cons_succ]
  refine wpAnyH_take (i := 14) (v := ?_) rfl (by kernel_rfl) (by kernel_rfl) (by kernel_rfl) (fun _ _ _ h => h) (Or.inl ⟨by rfl, ?_⟩) hHeld ?_
  rotate_left
  · intro wq hSw; have hq := (yf4.up hSw).cell 0; simp only [List.getElem?_toArray, List.getElem?_cons_succ, List.getElem?_cons_zero] at hq; go_simp; (try with_reducible rfl)
  simp only [Act.put, List.getElem_toArray, List.getElem_cons_succ, List.getElem_cons_zero, List.setIfInBounds_toArray, List.set_cons_zero, List.set_cons_succ]
  refine wpAnyH_take (i := 15) (v := .bool false) rfl (by kernel_rfl) (by kernel_rfl) (by kernel_rfl) (fun _ _ _ h => h) (Or.inl ⟨by rfl, ?_⟩) hHeld ?_
  · intro wq hSw; go_simp; (try (first | (with_reducible rfl) | rfl | exact hew | (intro hcon; exfalso; (first | omega | (rw [hcon] at l1; simp at l1; done))) | (simp [*]; done) | (simp [*]; omega)))
  simp only [Act.put, List.getElem_toArray, List.getElem_cons_succ, List.getElem_cons_zero, List.setIfInBounds_toArray, List.set_cons_zero, List.set_cons_succ]
  refine wpAnyH_take (i := 16) (v := .bool false) rfl (by kernel_rfl) (by kernel_rfl) (by kernel_rfl) (fun _ _ _ h => h) (Or.inl ⟨by rfl, ?_⟩) hHeld ?_
  · intro wq hSw; go_simp; (try (first | (with_reducible rfl) | rfl | exact hew | (intro hcon; exfalso; (first | omega | (rw [hcon] at l1; simp at l1; done))) | (simp [*]; done) | (simp [*]; omega)))
  simp only [Act.put, List.getElem_toArray, List.getElem_cons_succ, List.getElem_cons_zero, List.setIfInBounds_toArray, List.set_cons_zero, List.set_cons_succ]
  refine wpAnyH_take (i := 17) (v := ?_) rfl (by kernel_rfl) (by kernel_rfl) (by kernel_rfl) (fun _ _ _ h => h) (Or.inl ⟨by rfl, ?_⟩) hHeld ?_
  rotate_left
  · intro wq hSw; go_simp; (try with_reducible rfl)
  simp only [Act.put, List.getElem_toArray, List.getElem_cons_succ, List.getElem_cons_zero, List.setIfInBounds_toArray, List.set_cons_zero, List.set_cons_succ]
  refine wpAnyH_take (i := 18) (v := ?_) rfl (by kernel_rfl) (by kernel_rfl) (by kernel_rfl) (fun _ _ _ h => h) (Or.inl ⟨by rfl, ?_⟩) hHeld ?_
  rotate_left
  · intro wq hSw; go_simp; (try with_reducible rfl)
  simp only [Act.put, List.getElem_toArray, List.getElem_cons_succ, List.getElem_cons_zero, List.setIfInBounds_toArray, List.set_cons_zero, List.set_cons_succ]
  refine wpAnyH_take (i := 19) (v := .int .u8 (cl : Nat)) rfl (by kernel_rfl) (by kernel_rfl) (by kernel_rfl) (fun _ _ _ h => h) (Or.inl ⟨by rfl, ?_⟩) hHeld ?_
  · intro wq hSw; go_simp; (try (first | (with_reducible rfl) | rfl | exact hew | (intro hcon; exfalso; (first | omega | (rw [hcon] at l1; simp at l1; done))) | (simp [*]; done) | (simp [*]; omega)))
  simp only [Act.put, List.getElem_toArray, List.getElem_cons_succ, List.getElem_cons_zero, List.setIfInBounds_toArray, List.set_cons_zero, List.set_cons_succ]
  refine wpAnyH_take (i := 20) (v := ?_) rfl (by kernel_rfl) (by kernel_rfl) (by kernel_rfl) (fun _ _ _ h => h) (Or.inl ⟨by rfl, ?_⟩) hHeld ?_
  rotate_left
  · intro wq hSw; go_simp; (try with_reducible rfl)
  simp only [Act.put, List.getElem_toArray, List.getElem_cons_succ, List.getElem_cons_zero, List.setIfInBounds_toArray, List.set_cons_zero, List.set_cons_succ]
  refine wpAnyH_take (i := 21) (v := ?_) rfl (by kernel_rfl) (by kernel_rfl) (by kernel_rfl) (fun _ _ _ h => h) (Or.inl ⟨by rfl, ?_⟩) hHeld ?_
  rotate_left
  · intro wq hSw; have hq := (yf4.up hSw).cell 1; simp only [List.getElem?_toArray, List.getElem?_cons_succ, List.getElem?_cons_zero] at hq; go_simp; (try with_reducible rfl)
  simp only [Act.put, List.getElem_toArray, List.getElem_cons_succ, List.getElem_cons_zero, List.setIfInBounds_toArray, List.set_cons_zero, List.set_cons_succ]
  refine wpAnyH_take (i := 22) (v := .bool false) rfl (by kernel_rfl) (by kernel_rfl) (by kernel_rfl) (fun _ _ _ h => h) (Or.inl ⟨by rfl, ?_⟩) hHeld ?_
  · intro wq hSw; go_simp; (try (first | (with_reducible rfl) | rfl | exact hew | (intro hcon; exfalso; (first | omega | (rw [hcon] at l1; simp at l1; done))) | (simp [*]; done) | (simp [*]; omega)))
  simp only [Act.put, List.getElem_toArray, List.getElem_cons_succ, List.getElem_cons_zero, List.setIfInBounds_toArray, List.set_cons_zero, List.set_cons_succ]
  refine wpAnyH_take (i := 23) (v := .bool false) rfl (by kernel_rfl) (by kernel_rfl) (by kernel_rfl) (fun _ _ _ h => h) (Or.inl ⟨by rfl, ?_⟩) hHeld ?_
  · intro wq hSw; go_simp; (try (first | (with_reducible rfl) | rfl | exact hew | (intro hcon; exfalso; (first | omega | (rw [hcon] at l1; simp at l1; done))) | (simp [*]; done) | (simp [*]; omega)))
  simp only [Act.put, List.getElem_toArray, List.getElem_cons_succ, List.getElem_cons_zero, List.setIfInBounds_toArray, List.set_cons_zero, List.set_cons_succ]
  refine wpAnyH_take (i := 24) (v := ?_) rfl (by kernel_rfl) (by kernel_rfl) (by kernel_rfl) (fun _ _ _ h => h) (Or.inl ⟨by rfl, ?_⟩) hHeld ?_
  rotate_left
  · intro wq hSw; go_simp; (try with_reducible rfl)
  simp only [Act.put, List.getElem_toArray, List.getElem_cons_succ, List.getElem_cons_zero, List.setIfInBounds_toArray, List.set_cons_zero, List.set_cons_succ]
  refine wpAnyH_take (i := 25) (v := ?_) rfl (by kernel_rfl) (by kernel_rfl) (by kernel_rfl) (fun _ _ _ h => h) (Or.inl ⟨by rfl, ?_⟩) hHeld ?_
  rotate_left
  · intro wq hSw; go_simp; (try with_reducible rfl)
  simp only [Act.put, List.getElem_toArray, List.getElem_cons_succ, List.getElem_cons_zero, List.setIfInBounds_toArray, List.set_cons_zero, List.set_cons_succ]
  refine wpAnyH_take (i := 26) (v := .bool true) rfl (by kernel_rfl) (by kernel_rfl) (by kernel_rfl) (fun _ _ _ h => h) (Or.inl ⟨by rfl, ?_⟩) hHeld ?_
  · intro wq hSw; go_simp; (try (first | (with_reducible rfl) | rfl | exact hew | (intro hcon; exfalso; (first | omega | (rw [hcon] at l1; simp at l1; done))) | (simp [*]; done) | (simp [*]; omega)))
  simp only [Act.put, List.getElem_toArray, List.getElem_cons_succ, List.getElem_cons_zero, List.setIfInBounds_toArray, List.set_cons_zero, List.set_cons_succ]
  refine wpAnyH_take (i := 27) (v := ?_) rfl (by kernel_rfl) (by kernel_rfl) (by kernel_rfl) (fun _ _ _ h => h) (Or.inl ⟨by rfl, ?_⟩) hHeld ?_
  rotate_left
  · intro wq hSw; go_simp; (try with_reducible rfl)
  simp only [Act.put, List.getElem_toArray, List.getElem_cons_succ, List.getElem_cons_zero, List.setIfInBounds_toArray, List.set_cons_zero, List.set_cons_succ]
  refine wpAnyH_take (i := 28) (v := ?_) rfl (by kernel_rfl) (by kernel_rfl) (by kernel_rfl) (fun _ _ _ h => h) (Or.inl ⟨by rfl, ?_⟩) hHeld ?_
  rotate_left
  · intro wq hSw; go_simp; (try with_reducible rfl)
  simp only [Act.put, List.getElem_toArray, List.getElem_cons_succ, List.getElem_cons_zero, List.setIfInBounds_toArray, List.set_cons_zero, List.set_cons_succ]
  refine wpAnyH_take (i := 29) (v := ?_) rfl (by kernel_rfl) (by kernel_rfl) (by kernel_rfl) (fun _ _ _ h => h) (Or.inl ⟨by rfl, ?_⟩) hHeld ?_
  rotate_left
  · intro wq hSw; go_simp; (try with_reducible rfl)
  simp only [Act.put, List.getElem_toArray, List.getElem_cons_succ, List.getElem_cons_zero, List.setIfInBounds_toArray, List.set_cons_zero, List.set_cons_succ]
  refine wpAnyH_take (i := 30) (v := .bool false) rfl (by kernel_rfl) (by kernel_rfl) (by kernel_rfl) (fun _ _ _ h => h) (Or.inl ⟨by rfl, ?_⟩) hHeld ?_
  · intro wq hSw; go_simp; (try (first | (with_reducible rfl) | rfl | exact hew | (intro hcon; exfalso; (first | omega | (rw [hcon] at l1; simp at l1; done))) | (simp [*]; done) | (simp [*]; omega)))
  simp only [Act.put, List.getElem_toArray, List.getElem_cons_succ, List.getElem_cons_zero, List.setIfInBounds_toArray, List.set_cons_zero, List.set_cons_succ]
  refine wpAnyH_take (i := 31) (v := .bool false) rfl (by kernel_rfl) (by kernel_rfl) (by kernel_rfl) (fun _ _ _ h => h) (Or.inl ⟨by rfl, ?_⟩) hHeld ?_
  · intro wq hSw; go_simp; (try (first | (with_reducible rfl) | rfl | exact hew | (intro hcon; exfalso; (first | omega | (rw [hcon] at l1; simp at l1; done))) | (simp [*]; done) | (simp [*]; omega)))
  simp only [Act.put, List.getElem_toArray, List.getElem_cons_succ, List.getElem_cons_zero, List.setIfInBounds_toArray, List.set_cons_zero, List.set_cons_succ]
  refine wpAnyH_take (i := 32) (v := .bool false) rfl (by kernel_rfl) (by kernel_rfl) (by kernel_rfl) (fun _ _ _ h => h) (Or.inl ⟨by rfl, ?_⟩) hHeld ?_
  · intro wq hSw; go_simp; (try (first | (with_reducible rfl) | rfl | exact hew | (intro hcon; exfalso; (first | omega | (rw [hcon] at l1; simp at l1; done))) | (simp [*]; done) | (simp [*]; omega)))
  simp only [Act.put, List.getElem_toArray, List.getElem_cons_succ, List.getElem_cons_zero, List.setIfInBounds_toArray, List.set_cons_zero, List.set_cons_succ]
  refine wpAnyH_take (i := 33) (v := ?_) rfl (by kernel_rfl) (by kernel_rfl) (by kernel_rfl) (fun _ _ _ h => h) (Or.inl ⟨by rfl, ?_⟩) hHeld ?_
  rotate_left
  · intro wq hSw; go_simp; (try with_reducible rfl)
  simp only [Act.put, List.getElem_toArray, List.getElem_cons_succ, List.getElem_cons_zero, List.setIfInBounds_toArray, List.set_cons_zero, List.set_cons_succ]
  refine wpAnyH_take (i := 34) (v := ?_) rfl (by kernel_rfl) (by kernel_rfl) (by kernel_rfl) (fun _ _ _ h => h) (Or.inl ⟨by rfl, ?_⟩) hHeld ?_
  rotate_left
  · intro wq hSw; go_simp; (try with_reducible rfl)
  simp only [Act.put, List.getElem_toArray, List.getElem_cons_succ, List.getElem_cons_zero, List.setIfInBounds_toArray, List.set_cons_zero, List.set_cons_succ]
  refine wpAnyH_take (i := 35) (v := ?_) rfl (by kernel_rfl) (by kernel_rfl) (by kernel_rfl) (fun _ _ _ h => h) (Or.inl ⟨by rfl, ?_⟩) hHeld ?_
  rotate_left
  · intro wq hSw; have hq := (yf4.up hSw).cell 0; simp only [List.getElem?_toArray, List.getElem?_cons_succ, List.getElem?_cons_zero] at hq; go_simp; (try with_reducible rfl)
  simp only [Act.put, List.getElem_toArray, List.getElem_cons_succ, List.getElem_cons_zero, List.setIfInBounds_toArray, List.set_cons_zero, List.set_cons_succ]
  refine wpAnyH_take (i := 36) (v := .bool true) rfl (by kernel_rfl) (by kernel_rfl) (by kernel_rfl) (fun _ _ _ h => h) (Or.inl ⟨by rfl, ?_⟩) hHeld ?_
  · intro wq hSw; go_simp; (try (first | (with_reducible rfl) | rfl | exact hew | (intro hcon; exfalso; (first | omega | (rw [hcon] at l1; simp at l1; done))) | (simp [*]; done) | (simp [*]; omega)))
  simp only [Act.put, List.getElem_toArray, List.getElem_cons_succ, List.getElem_cons_zero, List.setIfInBounds_toArray, List.set_cons_zero, List.set_cons_succ]
  refine wpAnyH_take (i := 37) (v := ?_) rfl (by kernel_rfl) (by kernel_rfl) (by kernel_rfl) (fun _ _ _ h => h) (Or.inl ⟨by rfl, ?_⟩) hHeld ?_
  rotate_left
  · intro wq hSw; go_simp; (try with_reducible rfl)
  simp only [Act.put, List.getElem_toArray, List.getElem_cons_succ, List.getElem_cons_zero, List.setIfInBounds_toArray, List.set_cons_zero, List.set_cons_succ]
  refine wpAnyH_take (i := 38) (v := ?_) rfl (by kernel_rfl) (by kernel_rfl) (by kernel_rfl) (fun _ _ _ h => h) (Or.inl ⟨by rfl, ?_⟩) hHeld ?_
  rotate_left
  · intro wq hSw; go_simp; (try with_reducible rfl)
  simp only [Act.put, List.getElem_toArray, List.getElem_cons_succ, List.getElem_cons_zero, List.setIfInBounds_toArray, List.set_cons_zero, List.set_cons_succ]
  refine wpAnyH_take (i := 39) (v := ?_) rfl (by kernel_rfl) (by kernel_rfl) (by kernel_rfl) (fun _ _ _ h => h) (Or.inl ⟨by rfl, ?_⟩) hHeld ?_
  rotate_left
  · intro wq hSw; have hq := (yf4.up hSw).cell 0; simp only [List.getElem?_toArray, List.getElem?_cons_succ, List.getElem?_cons_zero] at hq; go_simp; (try with_reducible rfl)
  simp only [Act.put, List.getElem_toArray, List.getElem_cons_succ, List.getElem_cons_zero, List.setIfInBounds_toArray, List.set_cons_zero, List.set_cons_succ]
  refine wpAnyH_take (i := 40) (v := .bool false) rfl (by kernel_rfl) (by kernel_rfl) (by kernel_rfl) (fun _ _ _ h => h) (Or.inl ⟨by rfl, ?_⟩) hHeld ?_
  · intro wq hSw; go_simp; (try (first | (with_reducible rfl) | rfl | exact hew | (intro hcon; exfalso; (first | omega | (rw [hcon] at l1; simp at l1; done))) | (simp [*]; done) | (simp [*]; omega)))
  simp only [Act.put, List.getElem_toArray, List.getElem_cons_succ, List.getElem_cons_zero, List.setIfInBounds_toArray, List.set_cons_zero, List.set_cons_succ]
  refine wpAnyH_take (i := 41) (v := .bool false) rfl (by kernel_rfl) (by kernel_rfl) (by kernel_rfl) (fun _ _ _ h => h) (Or.inl ⟨by rfl, ?_⟩) hHeld ?_
  · intro wq hSw; go_simp; (try (first | (with_reducible rfl) | rfl | exact hew | (intro hcon; exfalso; (first | omega | (rw [hcon] at l1; simp at l1; done))) | (simp [*]; done) | (simp [*]; omega)))
  simp only [Act.put, List.getElem_toArray, List.getElem_cons_succ, List.getElem_cons_zero, List.setIfInBounds_toArray, List.set_cons_zero, List.set_cons_succ]
  refine wpAnyH_take (i := 42) (v := ?_) rfl (by kernel_rfl) (by kernel_rfl) (by kernel_rfl) (fun _ _ _ h => h) (Or.inl ⟨by rfl, ?_⟩) hHeld ?_
  rotate_left
  · intro wq hSw; go_simp; (try with_reducible rfl)
  simp only [Act.put, List.getElem_toArray, List.getElem_cons_succ, List.getElem_cons_zero, List.setIfInBounds_toArray, List.set_cons_zero, List.set_cons_succ]
  refine wpAnyH_take (i := 43) (v := undef) rfl (by kernel_rfl) (by kernel_rfl) (by kernel_rfl) (fun _ _ _ h => h) (Or.inr ⟨by rfl, rfl⟩) hHeld ?_
  simp only [Act.put, List.getElem_toArray, List.getElem_cons_succ, List.getElem_cons_zero, List.setIfInBounds_toArray, List.set_cons_zero, List.set_cons_succ]
  refine wpAnyH_take (i := 44) (v := undef) rfl (by kernel_rfl) (by kernel_rfl) (by kernel_rfl) (fun _ _ _ h => h) (Or.inr ⟨by rfl, rfl⟩) hHeld ?_
  simp only [Act.put, List.getElem_toArray, List.getElem_cons_succ, List.getElem_cons_zero, List.setIfInBounds_toArray, List.set_cons_zero, List.set_cons_succ]
  refine wpAnyH_take (i := 45) (v := undef) rfl (by kernel_rfl) (by kernel_rfl) (by kernel_rfl) (fun _ _ _ h => h) (Or.inr ⟨by rfl, rfl⟩) hHeld ?_
  simp only [Act.put, List.getElem_toArray, List.getElem_cons_succ, List.getElem_cons_zero, List.setIfInBounds_toArray, List.set_cons_zero, List.set_cons_succ]
  refine wpAnyH_take (i := 46) (v := .bool false) rfl (by kernel_rfl) (by kernel_rfl) (by kernel_rfl) (fun _ _ _ h => h) (Or.inl ⟨by rfl, ?_⟩) hHeld ?_
  · intro wq hSw; go_simp; (try (first | (with_reducible rfl) | rfl | exact hew | (intro hcon; exfalso; (first | omega | (rw [hcon] at l1; simp at l1; done))) | (simp [*]; done) | (simp [*]; omega)))
  simp only [Act.put, List.getElem_toArray, List.getElem_cons_succ, List.getElem_cons_zero, List.setIfInBounds_toArray, List.set_cons_zero, List.set_cons_succ]
  refine wpAnyH_take (i := 47) (v := .bool false) rfl (by kernel_rfl) (by kernel_rfl) (by kernel_rfl) (fun _ _ _ h => h) (Or.inl ⟨by rfl, ?_⟩) hHeld ?_
  · intro wq hSw; go_simp; (try (first | (with_reducible rfl) | rfl | exact hew | (intro hcon; exfalso; (first | omega | (rw [hcon] at l1; simp at l1; done))) | (simp [*]; done) | (simp [*]; omega)))
  simp only [Act.put, List.getElem_toArray, List.getElem_cons_succ, List.getElem_cons_zero, List.setIfInBounds_toArray, List.set_cons_zero, List.set_cons_succ]
  refine wpAnyH_done (by kernel_rfl) ?_ _
  rename_i K1 hK1 K0 hK0
  show K0 _ _
  refine hK0 _ _ ?_
  refine wp_cond_false (by rfl) (wp_skip ?_)
  show K1 _ _
  refine hK1 _ _ ?_
  exact (short_tail q z t w _ x4.heap.size op cl nu e a r v p rc vc pc _ _ _ _ _ _ _ _ _ _ _ _ _ _ _ _ _ _ _ _ _ _ _ _ _ _ _ _ _ _ _ _ _ _ _ _ _ _ _ _ _ _ _ _ _ _ _ _ _ _ _ _ _ _ _ _ _ _ _ _ _ _ _ _ _ _ _ _ _ _ _ _ _ _ _ _ _ _ _ _ _ _ _ _ _ _ _ _ _ _ _ _ _ _ _ _ _ _ _ _ _ _ _ _ _ _ _ _ _ _ _ _ _ _ _ _ _ _ _ _ _ _ _ _ _ _ _ _ _ _ _ _ _ _ _ _ _ _ _ _ _ hql hz hl hu Hk.out Hh.out yf4.drew zf4.drew hd4.drew)
end Go.Proofs.YtcobfoiajdbahaaDoor

namespace Go.Proofs.YtcobfoiajdbahaaDoor
open Go.RowKit
set_option linter.unusedVariables false
set_option linter.unusedSimpArgs false
attribute [local go_sem high] eq_Call guardCall P.eqI_self
set_option maxRecDepth 100000 in
set_option maxHeartbeats 8000000 in
theorem short_great_s (s : List UInt8) (z : Nat) (t : List UInt8) (w : World) (hs : s.length ≤ 2000) (hz : z < 65536) (hl : 100 < t.length) (hu : UsesOk w) :
    Calls Tryd.prog 8 #[S s, .int .u16 (z : Int), S t] w fun e' w' => e' = .returned (.bool true) ∧ Below w.heap.size w w' := by
  have hc0 := Below.refl w.heap.size w
  have hsl : ¬ 2000 < (s.length : Int) := by omega
  have hli : (100 : Int) < (t.length : Int) := by omega
  go_enter Tryd.func8, Tryd.ntmps8
  go_wp2_with (go_at_call 12; (with_reducible refine (awake_any _ (hu.up hc0)).mono ?_); rintro e' w9 ⟨rfl, hb9⟩; have hc9 := Chain.up hc0 hb9)
  go_ret
  exact ⟨rfl, hc9⟩
set_option maxRecDepth 100000 in
set_option maxHeartbeats 8000000 in
theorem short_no_s (s : List UInt8) (z : Nat) (t : List UInt8) (w : World) (hs : s.length ≤ 2000) (hz : z < 65536) (hl : t.length ≤ 100) (hk : P.hearOk s = false) (hu : UsesOk w) :
    Calls Tryd.prog 8 #[S s, .int .u16 (z : Int), S t] w fun e' w' => e' = .returned (.bool true) ∧ Below w.heap.size w w' := by
  have hc0 := Below.refl w.heap.size w
  have hsl : ¬ 2000 < (s.length : Int) := by omega
  have hli : ¬ (100 : Int) < (t.length : Int) := by omega
  have HN := Lib.hid (fun wx => hear_not (s := s) (by omega) hk wx)
  clear hk
  go_enter Tryd.func8, Tryd.ntmps8
  go_wp2_with (first
    | (go_at_call 23; (with_reducible refine (HN.out _).mono ?_); rintro e' x5 ⟨r5, r5c, v5, v5c, p5, p5c, rfl, hb5⟩; have hc5 := Chain.up hc0 hb5; obtain ⟨y5, z5, hB5⟩ := two_bx x5 #[.int .u8 0, .int .u8 0, .int .u64 0, .int .u8 0, .int .u64 0, .int .u64 0, .int .i64 0, .int .u8 0, .int .u64 0, .int .u64 0, .string ⟨#[]⟩, .string ⟨#[]⟩, .int .u64 0, .int .u64 0, .int .i64 0] #[.int .u8 0, .int .u64 0, .int .u64 0, .string ⟨#[]⟩, .int .u64 0, .int .u8 0, .int .u64 0, .int .u64 0, .int .i64 0, .bool false, .bool false, .bool false, .int .u64 0, .slice none 0 0, .slice none 0 0, .slice none 0 0] 28 36)
    | (refine wpList_stB (by rfl) _ _ _ (by rfl) y5 _ _ (by rfl) (by rfl) 15 15 (by rfl) (by rfl) (by decide) infoCall (by rfl) (by rfl) ?_; intro u5 hz' hsu5; have yy5 : Bx u5 x5.heap.size 28 #[.int .u8 0, .int .u8 0, .int .u64 0, .int .u8 0, .int .u64 0, .int .u64 0, .int .i64 0, .int .u8 0, .int .u64 0, .int .u64 0, .string ⟨#[]⟩, .string ⟨#[]⟩, .int .u64 0, .int .u64 0, .int .i64 0] := hz'; clear hz'; have zz5 := z5.but hsu5 (by omega); skip)
    | (refine wpList_stB (by rfl) _ _ _ (by rfl) zz5 _ _ (by rfl) (by rfl) 16 16 (by rfl) (by rfl) (by decide) infoAns (by rfl) (by rfl) ?_; intro t5 hz' hst5; have zf5 : Bx t5 (x5.heap.size + 1) 36 #[.int .u8 0, .int .u64 0, .int .u64 0, .string ⟨#[]⟩, .int .u64 0, .int .u8 0, .int .u64 0, .int .u64 0, .int .i64 0, .bool false, .bool false, .bool false, .int .u64 0, .slice r5 0 r5c, .slice v5 0 v5c, .slice p5 0 p5c] := hz'; clear hz'; have yf5 := yy5.but hst5 (by omega); have hd5 := Chain.up hc5 ((hB5.trans (hsu5.below (Nat.le_refl _) hB5.size)).trans (hst5.below (Nat.le_succ _) (by have := hB5.size; have := hsu5.size; omega))); skip)
    | (go_at_call 12; (with_reducible refine (awake_any _ (hu.up hd5)).mono ?_); rintro e' w9 ⟨rfl, hb9⟩; have hc9 := Chain.up hd5 hb9))
  go_ret
  exact ⟨rfl, hc9⟩
set_option maxRecDepth 100000 in
set_option maxHeartbeats 8000000 in
theorem short_yes_s (s : List UInt8) (z : Nat) (t : List UInt8) (w : World) (hs : s.length ≤ 2000) (hz : z < 65536) (hl : t.length ≤ 100) (hk : P.hearOk s = true) (hu : UsesOk w) :
    Calls Tryd.prog 8 #[S s, .int .u16 (z : Int), S t] w fun e' w' => e' = .returned (.bool true) ∧ Below w.heap.size w w' := by
  have hc0 := Below.refl w.heap.size w
  have hsl : ¬ 2000 < (s.length : Int) := by omega
  have hli : ¬ (100 : Int) < (t.length : Int) := by omega
  obtain ⟨op, cl, nu, e, a, hh⟩ : ∃ op cl nu e a, P.Heard s op cl nu a e := by obtain ⟨op, cl, nu, a, e, h⟩ := P.heard_of hk; exact ⟨op, cl, nu, e, a, h⟩
  have hql : s.length ≤ 2000 := by omega
  have hsd : decide ((2000 : Int) < (s.length : Int)) = false := decide_eq_false hsl
  go_enter Tryd.func8, Tryd.ntmps8
  go_upto_region 3 with fail
  go_cut [25] (fun s25 wx => s25 = .bool false ∧ w = wx)
  case first =>
    go_wp2_with fail
    go_meet
    exact ⟨rfl, rfl⟩
  case rest =>
    obtain ⟨rfl, rfl⟩ := hcut
    rename_i K1 hK1 Kr hKr
    refine hKr _ _ ?_
    refine wp_cond_false (by rfl) (wp_skip ?_)
    show K1 _ _
    refine hK1 _ _ ?_
    by_cases he : e = 0
    · have hkn := hh.known he
      by_cases ho : 1 ≤ op ∧ op ≤ 9
      · exact short_11 s z t w _ _ _ _ _ _ _ _ _ _ _ _ _ _ _ _ _ _ _ _ _ _ _ _ _ _ _ _ _ _ _ _ _ _ _ _ _ _ _ _ _ _ _ _ _ _ _ _ _ _ _ _ _ _ _ _ _ _ _ _ _ _ _ _ _ _ _ _ _ _ _ _ _ _ _ _ _ _ _ _ _ _ _ _ _ _ _ _ _ _ _ _ _ _ _ _ _ _ _ _ _ _ _ _ _ _ _ _ _ _ _ _ _ _ _ _ _ _ _ _ _ _ _ _ _ _ _ _ _ _ _ _ _ _ _ _ _ _ _ _ _ _ _ hql hz hl hu hk op cl nu e a hh he ho
      · replace ho : 9 < op := by omega
        exact short_12 s z t w _ _ _ _ _ _ _ _ _ _ _ _ _ _ _ _ _ _ _ _ _ _ _ _ _ _ _ _ _ _ _ _ _ _ _ _ _ _ _ _ _ _ _ _ _ _ _ _ _ _ _ _ _ _ _ _ _ _ _ _ _ _ _ _ _ _ _ _ _ _ _ _ _ _ _ _ _ _ _ _ _ _ _ _ _ _ _ _ _ _ _ _ _ _ _ _ _ _ _ _ _ _ _ _ _ _ _ _ _ _ _ _ _ _ _ _ _ _ _ _ _ _ _ _ _ _ _ _ _ _ _ _ _ _ _ _ _ _ _ _ _ _ _ hql hz hl hu hk op cl nu e a hh he ho
    · by_cases ho : op = 0
      · exact short_00 s z t w _ _ _ _ _ _ _ _ _ _ _ _ _ _ _ _ _ _ _ _ _ _ _ _ _ _ _ _ _ _ _ _ _ _ _ _ _ _ _ _ _ _ _ _ _ _ _ _ _ _ _ _ _ _ _ _ _ _ _ _ _ _ _ _ _ _ _ _ _ _ _ _ _ _ _ _ _ _ _ _ _ _ _ _ _ _ _ _ _ _ _ _ _ _ _ _ _ _ _ _ _ _ _ _ _ _ _ _ _ _ _ _ _ _ _ _ _ _ _ _ _ _ _ _ _ _ _ _ _ _ _ _ _ _ _ _ _ _ _ _ _ _ _ hql hz hl hu hk op cl nu e a hh he ho
      · by_cases ho : 1 ≤ op ∧ op ≤ 9
        · exact short_01 s z t w _ _ _ _ _ _ _ _ _ _ _ _ _ _ _ _ _ _ _ _ _ _ _ _ _ _ _ _ _ _ _ _ _ _ _ _ _ _ _ _ _ _ _ _ _ _ _ _ _ _ _ _ _ _ _ _ _ _ _ _ _ _ _ _ _ _ _ _ _ _ _ _ _ _ _ _ _ _ _ _ _ _ _ _ _ _ _ _ _ _ _ _ _ _ _ _ _ _ _ _ _ _ _ _ _ _ _ _ _ _ _ _ _ _ _ _ _ _ _ _ _ _ _ _ _ _ _ _ _ _ _ _ _ _ _ _ _ _ _ _ _ _ _ hql hz hl hu hk op cl nu e a hh he ho
        · replace ho : 9 < op := by omega
          exact short_02 s z t w _ _ _ _ _ _ _ _ _ _ _ _ _ _ _ _ _ _ _ _ _ _ _ _ _ _ _ _ _ _ _ _ _ _ _ _ _ _ _ _ _ _ _ _ _ _ _ _ _ _ _ _ _ _ _ _ _ _ _ _ _ _ _ _ _ _ _ _ _ _ _ _ _ _ _ _ _ _ _ _ _ _ _ _ _ _ _ _ _ _ _ _ _ _ _ _ _ _ _ _ _ _ _ _ _ _ _ _ _ _ _ _ _ _ _ _ _ _ _ _ _ _ _ _ _ _ _ _ _ _ _ _ _ _ _ _ _ _ _ _ _ _ _ hql hz hl hu hk op cl nu e a hh he ho
set_option maxRecDepth 100000 in
set_option maxHeartbeats 8000000 in
theorem short_great_l (s : List UInt8) (z : Nat) (t : List UInt8) (w : World) (hs : 2000 < s.length) (hz : z < 65536) (hl : 100 < t.length) (hu : UsesOk w) :
    Calls Tryd.prog 8 #[S s, .int .u16 (z : Int), S t] w fun e' w' => e' = .returned (.bool true) ∧ Below w.heap.size w w' := by
  have hc0 := Below.refl w.heap.size w
  have hsl : 2000 < (s.length : Int) := by omega
  have htk := str_takeN s 2000
  have hsl2 : 2000 ≤ s.length := by omega
  have hli : (100 : Int) < (t.length : Int) := by omega
  go_enter Tryd.func8, Tryd.ntmps8
  go_wp2_with (go_at_call 12; (with_reducible refine (awake_any _ (hu.up hc0)).mono ?_); rintro e' w9 ⟨rfl, hb9⟩; have hc9 := Chain.up hc0 hb9)
  go_ret
  exact ⟨rfl, hc9⟩
set_option maxRecDepth 100000 in
set_option maxHeartbeats 8000000 in
theorem short_no_l (s : List UInt8) (z : Nat) (t : List UInt8) (w : World) (hs : 2000 < s.length) (hz : z < 65536) (hl : t.length ≤ 100) (hk : P.hearOk (s.take 2000) = false) (hu : UsesOk w) :
    Calls Tryd.prog 8 #[S s, .int .u16 (z : Int), S t] w fun e' w' => e' = .returned (.bool true) ∧ Below w.heap.size w w' := by
  have hc0 := Below.refl w.heap.size w
  have hsl : 2000 < (s.length : Int) := by omega
  have htk := str_takeN s 2000
  have hsl2 : 2000 ≤ s.length := by omega
  have hli : ¬ (100 : Int) < (t.length : Int) := by omega
  have HN := Lib.hid (fun wx => hear_not (s := (s.take 2000)) (by rw [List.length_take]; omega) hk wx)
  clear hk
  generalize s.take 2000 = q at *
  go_enter Tryd.func8, Tryd.ntmps8
  go_wp2_with (first
    | (go_at_call 23; (with_reducible refine (HN.out _).mono ?_); rintro e' x5 ⟨r5, r5c, v5, v5c, p5, p5c, rfl, hb5⟩; have hc5 := Chain.up hc0 hb5; obtain ⟨y5, z5, hB5⟩ := two_bx x5 #[.int .u8 0, .int .u8 0, .int .u64 0, .int .u8 0, .int .u64 0, .int .u64 0, .int .i64 0, .int .u8 0, .int .u64 0, .int .u64 0, .string ⟨#[]⟩, .string ⟨#[]⟩, .int .u64 0, .int .u64 0, .int .i64 0] #[.int .u8 0, .int .u64 0, .int .u64 0, .string ⟨#[]⟩, .int .u64 0, .int .u8 0, .int .u64 0, .int .u64 0, .int .i64 0, .bool false, .bool false, .bool false, .int .u64 0, .slice none 0 0, .slice none 0 0, .slice none 0 0] 28 36)
    | (refine wpList_stB (by rfl) _ _ _ (by rfl) y5 _ _ (by rfl) (by rfl) 15 15 (by rfl) (by rfl) (by decide) infoCall (by rfl) (by rfl) ?_; intro u5 hz' hsu5; have yy5 : Bx u5 x5.heap.size 28 #[.int .u8 0, .int .u8 0, .int .u64 0, .int .u8 0, .int .u64 0, .int .u64 0, .int .i64 0, .int .u8 0, .int .u64 0, .int .u64 0, .string ⟨#[]⟩, .string ⟨#[]⟩, .int .u64 0, .int .u64 0, .int .i64 0] := hz'; clear hz'; have zz5 := z5.but hsu5 (by omega); skip)
    | (refine wpList_stB (by rfl) _ _ _ (by rfl) zz5 _ _ (by rfl) (by rfl) 16 16 (by rfl) (by rfl) (by decide) infoAns (by rfl) (by rfl) ?_; intro t5 hz' hst5; have zf5 : Bx t5 (x5.heap.size + 1) 36 #[.int .u8 0, .int .u64 0, .int .u64 0, .string ⟨#[]⟩, .int .u64 0, .int .u8 0, .int .u64 0, .int .u64 0, .int .i64 0, .bool false, .bool false, .bool false, .int .u64 0, .slice r5 0 r5c, .slice v5 0 v5c, .slice p5 0 p5c] := hz'; clear hz'; have yf5 := yy5.but hst5 (by omega); have hd5 := Chain.up hc5 ((hB5.trans (hsu5.below (Nat.le_refl _) hB5.size)).trans (hst5.below (Nat.le_succ _) (by have := hB5.size; have := hsu5.size; omega))); skip)
    | (go_at_call 12; (with_reducible refine (awake_any _ (hu.up hd5)).mono ?_); rintro e' w9 ⟨rfl, hb9⟩; have hc9 := Chain.up hd5 hb9))
  go_ret
  exact ⟨rfl, hc9⟩
set_option maxRecDepth 100000 in
set_option maxHeartbeats 8000000 in
theorem short_yes_l (s : List UInt8) (z : Nat) (t : List UInt8) (w : World) (hs : 2000 < s.length) (hz : z < 65536) (hl : t.length ≤ 100) (hk : P.hearOk (s.take 2000) = true) (hu : UsesOk w) :
    Calls Tryd.prog 8 #[S s, .int .u16 (z : Int), S t] w fun e' w' => e' = .returned (.bool true) ∧ Below w.heap.size w w' := by
  have hc0 := Below.refl w.heap.size w
  have hsl : 2000 < (s.length : Int) := by omega
  have htk := str_takeN s 2000
  have hsl2 : 2000 ≤ s.length := by omega
  have hli : ¬ (100 : Int) < (t.length : Int) := by omega
  obtain ⟨op, cl, nu, e, a, hh⟩ : ∃ op cl nu e a, P.Heard (s.take 2000) op cl nu a e := by obtain ⟨op, cl, nu, a, e, h⟩ := P.heard_of hk; exact ⟨op, cl, nu, e, a, h⟩
  have hql : (s.take 2000).length ≤ 2000 := by rw [List.length_take]; omega
  generalize s.take 2000 = q at *
  go_enter Tryd.func8, Tryd.ntmps8
  go_upto_region 4 with fail
  go_cut [0] (fun s0 wx => s0 = S q ∧ w = wx)
  case first =>
    go_wp2_with fail
    go_meet
    exact ⟨rfl, rfl⟩
  case rest =>
    obtain ⟨rfl, rfl⟩ := hcut
    rename_i Kr hKr
    refine hKr _ _ ?_
    by_cases he : e = 0
    · have hkn := hh.known he
      by_cases ho : 1 ≤ op ∧ op ≤ 9
      · exact short_11 q z t w _ _ _ _ _ _ _ _ _ _ _ _ _ _ _ _ _ _ _ _ _ _ _ _ _ _ _ _ _ _ _ _ _ _ _ _ _ _ _ _ _ _ _ _ _ _ _ _ _ _ _ _ _ _ _ _ _ _ _ _ _ _ _ _ _ _ _ _ _ _ _ _ _ _ _ _ _ _ _ _ _ _ _ _ _ _ _ _ _ _ _ _ _ _ _ _ _ _ _ _ _ _ _ _ _ _ _ _ _ _ _ _ _ _ _ _ _ _ _ _ _ _ _ _ _ _ _ _ _ _ _ _ _ _ _ _ _ _ _ _ _ _ _ hql hz hl hu hk op cl nu e a hh he ho
      · replace ho : 9 < op := by omega
        exact short_12 q z t w _ _ _ _ _ _ _ _ _ _ _ _ _ _ _ _ _ _ _ _ _ _ _ _ _ _ _ _ _ _ _ _ _ _ _ _ _ _ _ _ _ _ _ _ _ _ _ _ _ _ _ _ _ _ _ _ _ _ _ _ _ _ _ _ _ _ _ _ _ _ _ _ _ _ _ _ _ _ _ _ _ _ _ _ _ _ _ _ _ _ _ _ _ _ _ _ _ _ _ _ _ _ _ _ _ _ _ _ _ _ _ _ _ _ _ _ _ _ _ _ _ _ _ _ _ _ _ _ _ _ _ _ _ _ _ _ _ _ _ _ _ _ _ hql hz hl hu hk op cl nu e a hh he ho
    · by_cases ho : op = 0
      · exact short_00 q z t w _ _ _ _ _ _ _ _ _ _ _ _ _ _ _ _ _ _ _ _ _ _ _ _ _ _ _ _ _ _ _ _ _ _ _ _ _ _ _ _ _ _ _ _ _ _ _ _ _ _ _ _ _ _ _ _ _ _ _ _ _ _ _ _ _ _ _ _ _ _ _ _ _ _ _ _ _ _ _ _ _ _ _ _ _ _ _ _ _ _ _ _ _ _ _ _ _ _ _ _ _ _ _ _ _ _ _ _ _ _ _ _ _ _ _ _ _ _ _ _ _ _ _ _ _ _ _ _ _ _ _ _ _ _ _ _ _ _ _ _ _ _ _ hql hz hl hu hk op cl nu e a hh he ho
      · by_cases ho : 1 ≤ op ∧ op ≤ 9
        · exact short_01 q z t w _ _ _ _ _ _ _ _ _ _ _ _ _ _ _ _ _ _ _ _ _ _ _ _ _ _ _ _ _ _ _ _ _ _ _ _ _ _ _ _ _ _ _ _ _ _ _ _ _ _ _ _ _ _ _ _ _ _ _ _ _ _ _ _ _ _ _ _ _ _ _ _ _ _ _ _ _ _ _ _ _ _ _ _ _ _ _ _ _ _ _ _ _ _ _ _ _ _ _ _ _ _ _ _ _ _ _ _ _ _ _ _ _ _ _ _ _ _ _ _ _ _ _ _ _ _ _ _ _ _ _ _ _ _ _ _ _ _ _ _ _ _ _ hql hz hl hu hk op cl nu e a hh he ho
        · replace ho : 9 < op := by omega
          exact short_02 q z t w _ _ _ _ _ _ _ _ _ _ _ _ _ _ _ _ _ _ _ _ _ _ _ _ _ _ _ _ _ _ _ _ _ _ _ _ _ _ _ _ _ _ _ _ _ _ _ _ _ _ _ _ _ _ _ _ _ _ _ _ _ _ _ _ _ _ _ _ _ _ _ _ _ _ _ _ _ _ _ _ _ _ _ _ _ _ _ _ _ _ _ _ _ _ _ _ _ _ _ _ _ _ _ _ _ _ _ _ _ _ _ _ _ _ _ _ _ _ _ _ _ _ _ _ _ _ _ _ _ _ _ _ _ _ _ _ _ _ _ _ _ _ _ hql hz hl hu hk op cl nu e a hh he ho
/-- The law. -/
theorem law_short (s : List UInt8) (z : Nat) (t : List UInt8) (w : World) (hs : s.length ≤ 9223372036854775807) (hz : z < 65536) (ht : t.length ≤ 9223372036854775807) (hu : UsesOk w) :
    Calls Tryd.prog 8 #[S s, .int .u16 (z : Int), S t] w fun e' w' => e' = .returned (.bool true) ∧ Below w.heap.size w w' := by
  by_cases hl : t.length ≤ 100
  · by_cases hs2 : s.length ≤ 2000
    · cases hk : P.hearOk s with
      | true => exact short_yes_s s z t w hs2 hz hl hk hu
      | false => exact short_no_s s z t w hs2 hz hl hk hu
    · cases hk : P.hearOk (s.take 2000) with
      | true => exact short_yes_l s z t w (by omega) hz hl hk hu
      | false => exact short_no_l s z t w (by omega) hz hl hk hu
  · by_cases hs2 : s.length ≤ 2000
    · exact short_great_s s z t w hs2 hz (by omega) hu
    · exact short_great_l s z t w (by omega) hz (by omega) hu
end Go.Proofs.YtcobfoiajdbahaaDoor
