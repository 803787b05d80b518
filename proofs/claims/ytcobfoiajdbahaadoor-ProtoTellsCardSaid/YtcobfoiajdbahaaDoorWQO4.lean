/- The walk of ipam.Right, behind its third region: one lemma an Op (part 4). -/
import Derived.Test.YtcobfoiajdbahaaDoorWQRbase
namespace Go.Proofs.YtcobfoiajdbahaaDoor
open Go.RowKit
set_option linter.unusedVariables false
set_option linter.unusedSimpArgs false
attribute [local go_sem high] eq_Call guardCall
set_option maxRecDepth 1000000 in
set_option maxHeartbeats 8000000 in
theorem rop14 (x : P.Ca) (hto : x.to.length ≤ 1000000000) (w wc : World) (u8 u9 u10 u11 u12 u13 u14 u15 u16 u17 u18 u19 u20 u21 u22 u23 u24 u25 u26 u27 u28 u29 u30 u31 u32 u33 u34 u35 u36 u37 u38 u39 u40 u41 u42 u43 u44 u45 u46 u47 u48 u49 u50 u51 u52 u53 u54 u55 u56 u57 u58 u59 u60 u61 u62 u63 u64 u65 u66 u67 u68 u69 u70 u71 u72 u73 u74 u75 u76 u77 u78 u79 u80 u81 u82 u83 u84 u85 u86 u87 u88 u89 u90 u91 u92 u93 u94 u95 u96 u97 u98 u99 u100 u101 u102 u103 u104 u105 u106 u107 u108 u109 u110 u111 u112 u113 u114 u115 u116 u117 u118 u119 u120 u121 u122 u123 u124 u125 u126 u127 u128 u129 u130 u131 u132 u133 u134 u135 u136 u137 u138 u139 u140 u141 u142 u143 u144 u145 u146 u147 u148 u149 u150 u151 u152 : Value) (hA5 : Bx wc w.heap.size 28 #[.int .u8 (x.op : Nat), .int .u8 (x.client : Nat), V64 x.number, .int .u8 (x.p.a.fam : Nat), V64 x.p.a.hi, V64 x.p.a.lo, .int .i64 x.p.bits, .int .u8 (x.a.fam : Nat), V64 x.a.hi, V64 x.a.lo, S x.owner, S x.to, V64 x.d, V64 x.fr, .int .i64 x.n]) (hB5 : Bx wc (w.heap.size + 1) 28 #[.int .u8 0, .int .u8 0, .int .u64 0, .int .u8 (x.p.a.fam : Nat), V64 x.p.a.hi, V64 x.p.a.lo, .int .i64 x.p.bits, .int .u8 (x.a.fam : Nat), V64 x.a.hi, V64 x.a.lo, S x.owner, S x.to, V64 x.d, V64 x.fr, .int .i64 x.n]) (hC5 : Below w.heap.size w wc) (hop : x.op = 14) :
    Code.wp Tryd.prog restR (bodyPost Tryd.prog Tryd.f27 fun e w' => e = .returned (.bool (P.rightC x)) ∧ Below w.heap.size w w') ⟨#[caV x, .pointer (some ⟨w.heap.size, 0, none⟩), .bool false, .pointer (some ⟨w.heap.size + 1, 0, none⟩), .bool (P.pxOk x.p), .bool (P.adOk x.a), .bool (P.nameOk x.owner), .bool (decide (1 ≤ x.n ∧ x.n ≤ 16)), u8, u9, u10, u11, u12, u13, u14, u15, u16, u17, u18, u19, u20, u21, u22, u23, u24, u25, u26, u27, u28, u29, u30, u31, u32, u33, u34, u35, u36, u37, u38, u39, u40, u41, u42, u43, u44, u45, u46, u47, u48, u49, u50, u51, u52, u53, u54, u55, u56, u57, u58, u59, u60, u61, u62, u63, u64, u65, u66, u67, u68, u69, u70, u71, u72, u73, u74, u75, u76, u77, u78, u79, u80, u81, u82, u83, u84, u85, u86, u87, u88, u89, u90, u91, u92, u93, u94, u95, u96, u97, u98, u99, u100, u101, u102, u103, u104, u105, u106, u107, u108, u109, u110, u111, u112, u113, u114, u115, u116, u117, u118, u119, u120, u121, u122, u123, u124, u125, u126, u127, u128, u129, u130, u131, u132, u133, u134, u135, u136, u137, u138, u139, u140, u141, u142, u143, u144, u145, u146, u147, u148, u149, u150, u151, u152], []⟩ wc := by
  conv => arg 2; whnf
  have HT := Lib.hid (fun wx => name_any x.to hto wx)
  have HR := Lib.hid (right_op14 x hop)
  have t1 : ((x.op : Int) == 1) = false := beq_eq_false_iff_ne.2 (by omega)
  have t2 : ((x.op : Int) == 2) = false := beq_eq_false_iff_ne.2 (by omega)
  have t3 : ((x.op : Int) == 3) = false := beq_eq_false_iff_ne.2 (by omega)
  have t4 : ((x.op : Int) == 4) = false := beq_eq_false_iff_ne.2 (by omega)
  have t5 : ((x.op : Int) == 5) = false := beq_eq_false_iff_ne.2 (by omega)
  have t7 : ((x.op : Int) == 7) = false := beq_eq_false_iff_ne.2 (by omega)
  have t6 : ((x.op : Int) == 6) = false := beq_eq_false_iff_ne.2 (by omega)
  have t8 : ((x.op : Int) == 8) = false := beq_eq_false_iff_ne.2 (by omega)
  have t9 : ((x.op : Int) == 9) = false := beq_eq_false_iff_ne.2 (by omega)
  have t10 : ((x.op : Int) == 10) = false := beq_eq_false_iff_ne.2 (by omega)
  have t11 : ((x.op : Int) == 11) = false := beq_eq_false_iff_ne.2 (by omega)
  have t12 : ((x.op : Int) == 12) = false := beq_eq_false_iff_ne.2 (by omega)
  have t13 : ((x.op : Int) == 13) = false := beq_eq_false_iff_ne.2 (by omega)
  have t14 : ((x.op : Int) == 14) = true := beq_iff_eq.2 (by omega)
  clear hop hto
  obtain ⟨⟨a0, -, -, -, -, -, -, -, -, -, -, -, -, -, -⟩, -⟩ := hA5.cells15
  obtain ⟨⟨b0, b1, b2, b3, b4, b5, b6, b7, b8, b9, b10, b11, b12, b13, b14⟩, -, -, -, f3, f4, f5, f6, -, -, -, -, -, -, -, f14⟩ := hB5.cells15
  generalize P.pxOk x.p = bp at *
  generalize P.adOk x.a = ba at *
  generalize P.nameOk x.owner = bo at *
  generalize P.nameOk x.to = bt at *
  generalize decide (1 ≤ x.n ∧ x.n ≤ 16) = bm at *
  go_wp2_with fail
  all_goals (go_ret; refine ⟨ret_bool ?_, ?_⟩)
  all_goals (first | ((repeat (first | (with_reducible exact hC5) | (with_reducible exact hC6) | (with_reducible refine Below.setCell ?_ (Nat.le_succ _) _))); done) | (rw [HR.out]; done) | (rw [HR.out]; first | rfl | (simp [*]; done) | (simp [*]; intros; omega)))
set_option maxRecDepth 1000000 in
set_option maxHeartbeats 8000000 in
theorem rop15 (x : P.Ca) (hto : x.to.length ≤ 1000000000) (w wc : World) (u8 u9 u10 u11 u12 u13 u14 u15 u16 u17 u18 u19 u20 u21 u22 u23 u24 u25 u26 u27 u28 u29 u30 u31 u32 u33 u34 u35 u36 u37 u38 u39 u40 u41 u42 u43 u44 u45 u46 u47 u48 u49 u50 u51 u52 u53 u54 u55 u56 u57 u58 u59 u60 u61 u62 u63 u64 u65 u66 u67 u68 u69 u70 u71 u72 u73 u74 u75 u76 u77 u78 u79 u80 u81 u82 u83 u84 u85 u86 u87 u88 u89 u90 u91 u92 u93 u94 u95 u96 u97 u98 u99 u100 u101 u102 u103 u104 u105 u106 u107 u108 u109 u110 u111 u112 u113 u114 u115 u116 u117 u118 u119 u120 u121 u122 u123 u124 u125 u126 u127 u128 u129 u130 u131 u132 u133 u134 u135 u136 u137 u138 u139 u140 u141 u142 u143 u144 u145 u146 u147 u148 u149 u150 u151 u152 : Value) (hA5 : Bx wc w.heap.size 28 #[.int .u8 (x.op : Nat), .int .u8 (x.client : Nat), V64 x.number, .int .u8 (x.p.a.fam : Nat), V64 x.p.a.hi, V64 x.p.a.lo, .int .i64 x.p.bits, .int .u8 (x.a.fam : Nat), V64 x.a.hi, V64 x.a.lo, S x.owner, S x.to, V64 x.d, V64 x.fr, .int .i64 x.n]) (hB5 : Bx wc (w.heap.size + 1) 28 #[.int .u8 0, .int .u8 0, .int .u64 0, .int .u8 (x.p.a.fam : Nat), V64 x.p.a.hi, V64 x.p.a.lo, .int .i64 x.p.bits, .int .u8 (x.a.fam : Nat), V64 x.a.hi, V64 x.a.lo, S x.owner, S x.to, V64 x.d, V64 x.fr, .int .i64 x.n]) (hC5 : Below w.heap.size w wc) (hop : x.op = 15) :
    Code.wp Tryd.prog restR (bodyPost Tryd.prog Tryd.f27 fun e w' => e = .returned (.bool (P.rightC x)) ∧ Below w.heap.size w w') ⟨#[caV x, .pointer (some ⟨w.heap.size, 0, none⟩), .bool false, .pointer (some ⟨w.heap.size + 1, 0, none⟩), .bool (P.pxOk x.p), .bool (P.adOk x.a), .bool (P.nameOk x.owner), .bool (decide (1 ≤ x.n ∧ x.n ≤ 16)), u8, u9, u10, u11, u12, u13, u14, u15, u16, u17, u18, u19, u20, u21, u22, u23, u24, u25, u26, u27, u28, u29, u30, u31, u32, u33, u34, u35, u36, u37, u38, u39, u40, u41, u42, u43, u44, u45, u46, u47, u48, u49, u50, u51, u52, u53, u54, u55, u56, u57, u58, u59, u60, u61, u62, u63, u64, u65, u66, u67, u68, u69, u70, u71, u72, u73, u74, u75, u76, u77, u78, u79, u80, u81, u82, u83, u84, u85, u86, u87, u88, u89, u90, u91, u92, u93, u94, u95, u96, u97, u98, u99, u100, u101, u102, u103, u104, u105, u106, u107, u108, u109, u110, u111, u112, u113, u114, u115, u116, u117, u118, u119, u120, u121, u122, u123, u124, u125, u126, u127, u128, u129, u130, u131, u132, u133, u134, u135, u136, u137, u138, u139, u140, u141, u142, u143, u144, u145, u146, u147, u148, u149, u150, u151, u152], []⟩ wc := by
  conv => arg 2; whnf
  have HT := Lib.hid (fun wx => name_any x.to hto wx)
  have HR := Lib.hid (right_op15 x hop)
  have t1 : ((x.op : Int) == 1) = false := beq_eq_false_iff_ne.2 (by omega)
  have t2 : ((x.op : Int) == 2) = false := beq_eq_false_iff_ne.2 (by omega)
  have t3 : ((x.op : Int) == 3) = false := beq_eq_false_iff_ne.2 (by omega)
  have t4 : ((x.op : Int) == 4) = false := beq_eq_false_iff_ne.2 (by omega)
  have t5 : ((x.op : Int) == 5) = false := beq_eq_false_iff_ne.2 (by omega)
  have t7 : ((x.op : Int) == 7) = false := beq_eq_false_iff_ne.2 (by omega)
  have t6 : ((x.op : Int) == 6) = false := beq_eq_false_iff_ne.2 (by omega)
  have t8 : ((x.op : Int) == 8) = false := beq_eq_false_iff_ne.2 (by omega)
  have t9 : ((x.op : Int) == 9) = false := beq_eq_false_iff_ne.2 (by omega)
  have t10 : ((x.op : Int) == 10) = false := beq_eq_false_iff_ne.2 (by omega)
  have t11 : ((x.op : Int) == 11) = false := beq_eq_false_iff_ne.2 (by omega)
  have t12 : ((x.op : Int) == 12) = false := beq_eq_false_iff_ne.2 (by omega)
  have t13 : ((x.op : Int) == 13) = false := beq_eq_false_iff_ne.2 (by omega)
  have t14 : ((x.op : Int) == 14) = false := beq_eq_false_iff_ne.2 (by omega)
  have t15 : ((x.op : Int) == 15) = true := beq_iff_eq.2 (by omega)
  clear hop hto
  obtain ⟨⟨a0, -, -, -, -, -, -, -, -, -, -, -, -, -, -⟩, -⟩ := hA5.cells15
  obtain ⟨⟨b0, b1, b2, b3, b4, b5, b6, b7, b8, b9, b10, b11, b12, b13, b14⟩, -, -, -, -, -, -, -, -, -, -, -, -, -, -, -⟩ := hB5.cells15
  generalize P.pxOk x.p = bp at *
  generalize P.adOk x.a = ba at *
  generalize P.nameOk x.owner = bo at *
  generalize P.nameOk x.to = bt at *
  generalize decide (1 ≤ x.n ∧ x.n ≤ 16) = bm at *
  go_wp2_with fail
  all_goals (go_ret; refine ⟨ret_bool ?_, ?_⟩)
  all_goals (first | ((repeat (first | (with_reducible exact hC5) | (with_reducible exact hC6) | (with_reducible refine Below.setCell ?_ (Nat.le_succ _) _))); done) | (rw [HR.out]; done) | (rw [HR.out]; first | rfl | (simp [*]; done) | (simp [*]; intros; omega)))
set_option maxRecDepth 1000000 in
set_option maxHeartbeats 8000000 in
theorem rop0 (x : P.Ca) (hto : x.to.length ≤ 1000000000) (w wc : World) (u8 u9 u10 u11 u12 u13 u14 u15 u16 u17 u18 u19 u20 u21 u22 u23 u24 u25 u26 u27 u28 u29 u30 u31 u32 u33 u34 u35 u36 u37 u38 u39 u40 u41 u42 u43 u44 u45 u46 u47 u48 u49 u50 u51 u52 u53 u54 u55 u56 u57 u58 u59 u60 u61 u62 u63 u64 u65 u66 u67 u68 u69 u70 u71 u72 u73 u74 u75 u76 u77 u78 u79 u80 u81 u82 u83 u84 u85 u86 u87 u88 u89 u90 u91 u92 u93 u94 u95 u96 u97 u98 u99 u100 u101 u102 u103 u104 u105 u106 u107 u108 u109 u110 u111 u112 u113 u114 u115 u116 u117 u118 u119 u120 u121 u122 u123 u124 u125 u126 u127 u128 u129 u130 u131 u132 u133 u134 u135 u136 u137 u138 u139 u140 u141 u142 u143 u144 u145 u146 u147 u148 u149 u150 u151 u152 : Value) (hA5 : Bx wc w.heap.size 28 #[.int .u8 (x.op : Nat), .int .u8 (x.client : Nat), V64 x.number, .int .u8 (x.p.a.fam : Nat), V64 x.p.a.hi, V64 x.p.a.lo, .int .i64 x.p.bits, .int .u8 (x.a.fam : Nat), V64 x.a.hi, V64 x.a.lo, S x.owner, S x.to, V64 x.d, V64 x.fr, .int .i64 x.n]) (hB5 : Bx wc (w.heap.size + 1) 28 #[.int .u8 0, .int .u8 0, .int .u64 0, .int .u8 (x.p.a.fam : Nat), V64 x.p.a.hi, V64 x.p.a.lo, .int .i64 x.p.bits, .int .u8 (x.a.fam : Nat), V64 x.a.hi, V64 x.a.lo, S x.owner, S x.to, V64 x.d, V64 x.fr, .int .i64 x.n]) (hC5 : Below w.heap.size w wc) (hop : ¬ (1 ≤ x.op ∧ x.op ≤ 15)) :
    Code.wp Tryd.prog restR (bodyPost Tryd.prog Tryd.f27 fun e w' => e = .returned (.bool (P.rightC x)) ∧ Below w.heap.size w w') ⟨#[caV x, .pointer (some ⟨w.heap.size, 0, none⟩), .bool false, .pointer (some ⟨w.heap.size + 1, 0, none⟩), .bool (P.pxOk x.p), .bool (P.adOk x.a), .bool (P.nameOk x.owner), .bool (decide (1 ≤ x.n ∧ x.n ≤ 16)), u8, u9, u10, u11, u12, u13, u14, u15, u16, u17, u18, u19, u20, u21, u22, u23, u24, u25, u26, u27, u28, u29, u30, u31, u32, u33, u34, u35, u36, u37, u38, u39, u40, u41, u42, u43, u44, u45, u46, u47, u48, u49, u50, u51, u52, u53, u54, u55, u56, u57, u58, u59, u60, u61, u62, u63, u64, u65, u66, u67, u68, u69, u70, u71, u72, u73, u74, u75, u76, u77, u78, u79, u80, u81, u82, u83, u84, u85, u86, u87, u88, u89, u90, u91, u92, u93, u94, u95, u96, u97, u98, u99, u100, u101, u102, u103, u104, u105, u106, u107, u108, u109, u110, u111, u112, u113, u114, u115, u116, u117, u118, u119, u120, u121, u122, u123, u124, u125, u126, u127, u128, u129, u130, u131, u132, u133, u134, u135, u136, u137, u138, u139, u140, u141, u142, u143, u144, u145, u146, u147, u148, u149, u150, u151, u152], []⟩ wc := by
  conv => arg 2; whnf
  have HT := Lib.hid (fun wx => name_any x.to hto wx)
  have HR := Lib.hid (right_other x hop)
  have t1 : ((x.op : Int) == 1) = false := beq_eq_false_iff_ne.2 (by omega)
  have t2 : ((x.op : Int) == 2) = false := beq_eq_false_iff_ne.2 (by omega)
  have t3 : ((x.op : Int) == 3) = false := beq_eq_false_iff_ne.2 (by omega)
  have t4 : ((x.op : Int) == 4) = false := beq_eq_false_iff_ne.2 (by omega)
  have t5 : ((x.op : Int) == 5) = false := beq_eq_false_iff_ne.2 (by omega)
  have t7 : ((x.op : Int) == 7) = false := beq_eq_false_iff_ne.2 (by omega)
  have t6 : ((x.op : Int) == 6) = false := beq_eq_false_iff_ne.2 (by omega)
  have t8 : ((x.op : Int) == 8) = false := beq_eq_false_iff_ne.2 (by omega)
  have t9 : ((x.op : Int) == 9) = false := beq_eq_false_iff_ne.2 (by omega)
  have t10 : ((x.op : Int) == 10) = false := beq_eq_false_iff_ne.2 (by omega)
  have t11 : ((x.op : Int) == 11) = false := beq_eq_false_iff_ne.2 (by omega)
  have t12 : ((x.op : Int) == 12) = false := beq_eq_false_iff_ne.2 (by omega)
  have t13 : ((x.op : Int) == 13) = false := beq_eq_false_iff_ne.2 (by omega)
  have t14 : ((x.op : Int) == 14) = false := beq_eq_false_iff_ne.2 (by omega)
  have t15 : ((x.op : Int) == 15) = false := beq_eq_false_iff_ne.2 (by omega)
  clear hop hto
  obtain ⟨⟨a0, -, -, -, -, -, -, -, -, -, -, -, -, -, -⟩, -⟩ := hA5.cells15
  obtain ⟨⟨b0, b1, b2, b3, b4, b5, b6, b7, b8, b9, b10, b11, b12, b13, b14⟩, -, -, -, -, -, -, -, -, -, -, -, -, -, -, -⟩ := hB5.cells15
  generalize P.pxOk x.p = bp at *
  generalize P.adOk x.a = ba at *
  generalize P.nameOk x.owner = bo at *
  generalize P.nameOk x.to = bt at *
  generalize decide (1 ≤ x.n ∧ x.n ≤ 16) = bm at *
  go_wp2_with fail
  all_goals (go_ret; refine ⟨ret_bool ?_, ?_⟩)
  all_goals (first | ((repeat (first | (with_reducible exact hC5) | (with_reducible exact hC6) | (with_reducible refine Below.setCell ?_ (Nat.le_succ _) _))); done) | (rw [HR.out]; done) | (rw [HR.out]; first | rfl | (simp [*]; done) | (simp [*]; intros; omega)))
end Go.Proofs.YtcobfoiajdbahaaDoor
