/- The walk of Great, of a call and an answer. -/
import Derived.Test.YtcobfoiajdbahaaDoorWQLTold
import Derived.Test.YtcobfoiajdbahaaDoorWQLawC
import Derived.Test.YtcobfoiajdbahaaDoorWQTellA
namespace Go.Proofs.YtcobfoiajdbahaaDoor
open Go.RowKit
set_option linter.unusedVariables false
set_option linter.unusedSimpArgs false
def GreatD (x : P.Ca) (a : P.An) (w : World) (e : Ending) (w' : World) : Prop := ∃ b, e = .returned (.bool b) ∧ (b = false → SmallA a ∧ P.greatC x = false) ∧ Below w.heap.size w w'
set_option maxRecDepth 100000 in
set_option maxHeartbeats 8000000 in
theorem greatA_0 (x : P.Ca) (a : P.An) (r : Option Addr) (rc : Nat) (v : Option Addr) (vc : Nat) (p : Option Addr) (pc : Nat) (hxo : x.owner.length ≤ 9223372036854775807) (hxt : x.to.length ≤ 9223372036854775807) (hao : a.owner.length ≤ 9223372036854775807) (hro : ∀ y ∈ a.rows, y.owner.length ≤ 9223372036854775807) (heo : ∀ y ∈ a.events, y.owner.length ≤ 9223372036854775807) (w : World) (hat : AnsAt w a r v p) (h0 : 2000 < x.owner.length) : Calls Tryd.prog 11 #[caV x, anV a r rc v vc p pc] w fun e w' => e = .returned (.bool true) ∧ Below w.heap.size w w' := by
  obtain ⟨h1, h2, hA⟩ := two_bx w #[.int .u8 (x.op : Nat), .int .u8 (x.client : Nat), V64 x.number, .int .u8 (x.p.a.fam : Nat), V64 x.p.a.hi, V64 x.p.a.lo, .int .i64 x.p.bits, .int .u8 (x.a.fam : Nat), V64 x.a.hi, V64 x.a.lo, S x.owner, S x.to, V64 x.d, V64 x.fr, .int .i64 x.n] #[.int .u8 (a.a.fam : Nat), V64 a.a.hi, V64 a.a.lo, S a.owner, V64 a.til, .int .u8 (a.pool.a.fam : Nat), V64 a.pool.a.hi, V64 a.pool.a.lo, .int .i64 a.pool.bits, .bool a.has, .bool a.held, .bool a.live, V64 a.clock, .slice r a.rows.length rc, .slice v a.events.length vc, .slice p a.pools.length pc] 28 36
  have i0 : (2000 : Int) < ((x.owner.length : Nat) : Int) := by omega
  clear h0 hat hro heo
  go_enter Tryd.func11, Tryd.ntmps11
  go_upto_region 1 with fail
  generalize hW : (w.alloc (.cells #[.int .u8 (x.op : Nat), .int .u8 (x.client : Nat), V64 x.number, .int .u8 (x.p.a.fam : Nat), V64 x.p.a.hi, V64 x.p.a.lo, .int .i64 x.p.bits, .int .u8 (x.a.fam : Nat), V64 x.a.hi, V64 x.a.lo, S x.owner, S x.to, V64 x.d, V64 x.fr, .int .i64 x.n] 28)).alloc (.cells #[.int .u8 (a.a.fam : Nat), V64 a.a.hi, V64 a.a.lo, S a.owner, V64 a.til, .int .u8 (a.pool.a.fam : Nat), V64 a.pool.a.hi, V64 a.pool.a.lo, .int .i64 a.pool.bits, .bool a.has, .bool a.held, .bool a.live, V64 a.clock, .slice r a.rows.length rc, .slice v a.events.length vc, .slice p a.pools.length pc] 36) = w2 at *
  clear hW
  obtain ⟨⟨c0, c1, c2, c3, c4, c5, c6, c7, c8, c9, c10, c11, c12, c13, c14⟩, -⟩ := h1.cells15
  obtain ⟨⟨a0, a1, a2, a3, a4, a5, a6, a7, a8, a9, a10, a11, a12, a13, a14, a15⟩, -⟩ := h2.cells16
  go_wp2_with fail
  all_goals (go_ret; exact ⟨rfl, hA⟩)
set_option maxRecDepth 100000 in
set_option maxHeartbeats 8000000 in
theorem greatA_1 (x : P.Ca) (a : P.An) (r : Option Addr) (rc : Nat) (v : Option Addr) (vc : Nat) (p : Option Addr) (pc : Nat) (hxo : x.owner.length ≤ 9223372036854775807) (hxt : x.to.length ≤ 9223372036854775807) (hao : a.owner.length ≤ 9223372036854775807) (hro : ∀ y ∈ a.rows, y.owner.length ≤ 9223372036854775807) (heo : ∀ y ∈ a.events, y.owner.length ≤ 9223372036854775807) (w : World) (hat : AnsAt w a r v p) (h0 : ¬ 2000 < x.owner.length) (h1x : 2000 < x.to.length) : Calls Tryd.prog 11 #[caV x, anV a r rc v vc p pc] w fun e w' => e = .returned (.bool true) ∧ Below w.heap.size w w' := by
  obtain ⟨h1, h2, hA⟩ := two_bx w #[.int .u8 (x.op : Nat), .int .u8 (x.client : Nat), V64 x.number, .int .u8 (x.p.a.fam : Nat), V64 x.p.a.hi, V64 x.p.a.lo, .int .i64 x.p.bits, .int .u8 (x.a.fam : Nat), V64 x.a.hi, V64 x.a.lo, S x.owner, S x.to, V64 x.d, V64 x.fr, .int .i64 x.n] #[.int .u8 (a.a.fam : Nat), V64 a.a.hi, V64 a.a.lo, S a.owner, V64 a.til, .int .u8 (a.pool.a.fam : Nat), V64 a.pool.a.hi, V64 a.pool.a.lo, .int .i64 a.pool.bits, .bool a.has, .bool a.held, .bool a.live, V64 a.clock, .slice r a.rows.length rc, .slice v a.events.length vc, .slice p a.pools.length pc] 28 36
  have i0 : ¬ (2000 : Int) < ((x.owner.length : Nat) : Int) := by omega
  have i1 : (2000 : Int) < ((x.to.length : Nat) : Int) := by omega
  clear h0 h1x hat hro heo
  go_enter Tryd.func11, Tryd.ntmps11
  go_upto_region 1 with fail
  generalize hW : (w.alloc (.cells #[.int .u8 (x.op : Nat), .int .u8 (x.client : Nat), V64 x.number, .int .u8 (x.p.a.fam : Nat), V64 x.p.a.hi, V64 x.p.a.lo, .int .i64 x.p.bits, .int .u8 (x.a.fam : Nat), V64 x.a.hi, V64 x.a.lo, S x.owner, S x.to, V64 x.d, V64 x.fr, .int .i64 x.n] 28)).alloc (.cells #[.int .u8 (a.a.fam : Nat), V64 a.a.hi, V64 a.a.lo, S a.owner, V64 a.til, .int .u8 (a.pool.a.fam : Nat), V64 a.pool.a.hi, V64 a.pool.a.lo, .int .i64 a.pool.bits, .bool a.has, .bool a.held, .bool a.live, V64 a.clock, .slice r a.rows.length rc, .slice v a.events.length vc, .slice p a.pools.length pc] 36) = w2 at *
  clear hW
  obtain ⟨⟨c0, c1, c2, c3, c4, c5, c6, c7, c8, c9, c10, c11, c12, c13, c14⟩, -⟩ := h1.cells15
  obtain ⟨⟨a0, a1, a2, a3, a4, a5, a6, a7, a8, a9, a10, a11, a12, a13, a14, a15⟩, -⟩ := h2.cells16
  go_wp2_with fail
  all_goals (go_ret; exact ⟨rfl, hA⟩)
set_option maxRecDepth 100000 in
set_option maxHeartbeats 8000000 in
theorem greatA_2 (x : P.Ca) (a : P.An) (r : Option Addr) (rc : Nat) (v : Option Addr) (vc : Nat) (p : Option Addr) (pc : Nat) (hxo : x.owner.length ≤ 9223372036854775807) (hxt : x.to.length ≤ 9223372036854775807) (hao : a.owner.length ≤ 9223372036854775807) (hro : ∀ y ∈ a.rows, y.owner.length ≤ 9223372036854775807) (heo : ∀ y ∈ a.events, y.owner.length ≤ 9223372036854775807) (w : World) (hat : AnsAt w a r v p) (h0 : ¬ 2000 < x.owner.length) (h1x : ¬ 2000 < x.to.length) (h2x : 2000 < a.owner.length) : Calls Tryd.prog 11 #[caV x, anV a r rc v vc p pc] w fun e w' => e = .returned (.bool true) ∧ Below w.heap.size w w' := by
  obtain ⟨h1, h2, hA⟩ := two_bx w #[.int .u8 (x.op : Nat), .int .u8 (x.client : Nat), V64 x.number, .int .u8 (x.p.a.fam : Nat), V64 x.p.a.hi, V64 x.p.a.lo, .int .i64 x.p.bits, .int .u8 (x.a.fam : Nat), V64 x.a.hi, V64 x.a.lo, S x.owner, S x.to, V64 x.d, V64 x.fr, .int .i64 x.n] #[.int .u8 (a.a.fam : Nat), V64 a.a.hi, V64 a.a.lo, S a.owner, V64 a.til, .int .u8 (a.pool.a.fam : Nat), V64 a.pool.a.hi, V64 a.pool.a.lo, .int .i64 a.pool.bits, .bool a.has, .bool a.held, .bool a.live, V64 a.clock, .slice r a.rows.length rc, .slice v a.events.length vc, .slice p a.pools.length pc] 28 36
  have i0 : ¬ (2000 : Int) < ((x.owner.length : Nat) : Int) := by omega
  have i1 : ¬ (2000 : Int) < ((x.to.length : Nat) : Int) := by omega
  have i2 : (2000 : Int) < ((a.owner.length : Nat) : Int) := by omega
  clear h0 h1x h2x hat hro heo
  go_enter Tryd.func11, Tryd.ntmps11
  go_upto_region 1 with fail
  generalize hW : (w.alloc (.cells #[.int .u8 (x.op : Nat), .int .u8 (x.client : Nat), V64 x.number, .int .u8 (x.p.a.fam : Nat), V64 x.p.a.hi, V64 x.p.a.lo, .int .i64 x.p.bits, .int .u8 (x.a.fam : Nat), V64 x.a.hi, V64 x.a.lo, S x.owner, S x.to, V64 x.d, V64 x.fr, .int .i64 x.n] 28)).alloc (.cells #[.int .u8 (a.a.fam : Nat), V64 a.a.hi, V64 a.a.lo, S a.owner, V64 a.til, .int .u8 (a.pool.a.fam : Nat), V64 a.pool.a.hi, V64 a.pool.a.lo, .int .i64 a.pool.bits, .bool a.has, .bool a.held, .bool a.live, V64 a.clock, .slice r a.rows.length rc, .slice v a.events.length vc, .slice p a.pools.length pc] 36) = w2 at *
  clear hW
  obtain ⟨⟨c0, c1, c2, c3, c4, c5, c6, c7, c8, c9, c10, c11, c12, c13, c14⟩, -⟩ := h1.cells15
  obtain ⟨⟨a0, a1, a2, a3, a4, a5, a6, a7, a8, a9, a10, a11, a12, a13, a14, a15⟩, -⟩ := h2.cells16
  go_wp2_with fail
  all_goals (go_ret; exact ⟨rfl, hA⟩)
set_option maxRecDepth 100000 in
set_option maxHeartbeats 8000000 in
theorem greatA_3 (x : P.Ca) (a : P.An) (r : Option Addr) (rc : Nat) (v : Option Addr) (vc : Nat) (p : Option Addr) (pc : Nat) (hxo : x.owner.length ≤ 9223372036854775807) (hxt : x.to.length ≤ 9223372036854775807) (hao : a.owner.length ≤ 9223372036854775807) (hro : ∀ y ∈ a.rows, y.owner.length ≤ 9223372036854775807) (heo : ∀ y ∈ a.events, y.owner.length ≤ 9223372036854775807) (w : World) (hat : AnsAt w a r v p) (h0 : ¬ 2000 < x.owner.length) (h1x : ¬ 2000 < x.to.length) (h2x : ¬ 2000 < a.owner.length) (h3 : 40 < a.rows.length) : Calls Tryd.prog 11 #[caV x, anV a r rc v vc p pc] w fun e w' => e = .returned (.bool true) ∧ Below w.heap.size w w' := by
  obtain ⟨h1, h2, hA⟩ := two_bx w #[.int .u8 (x.op : Nat), .int .u8 (x.client : Nat), V64 x.number, .int .u8 (x.p.a.fam : Nat), V64 x.p.a.hi, V64 x.p.a.lo, .int .i64 x.p.bits, .int .u8 (x.a.fam : Nat), V64 x.a.hi, V64 x.a.lo, S x.owner, S x.to, V64 x.d, V64 x.fr, .int .i64 x.n] #[.int .u8 (a.a.fam : Nat), V64 a.a.hi, V64 a.a.lo, S a.owner, V64 a.til, .int .u8 (a.pool.a.fam : Nat), V64 a.pool.a.hi, V64 a.pool.a.lo, .int .i64 a.pool.bits, .bool a.has, .bool a.held, .bool a.live, V64 a.clock, .slice r a.rows.length rc, .slice v a.events.length vc, .slice p a.pools.length pc] 28 36
  have i0 : ¬ (2000 : Int) < ((x.owner.length : Nat) : Int) := by omega
  have i1 : ¬ (2000 : Int) < ((x.to.length : Nat) : Int) := by omega
  have i2 : ¬ (2000 : Int) < ((a.owner.length : Nat) : Int) := by omega
  have i3 : (40 : Int) < ((a.rows.length : Nat) : Int) := by omega
  clear h0 h1x h2x h3 hat hro heo
  go_enter Tryd.func11, Tryd.ntmps11
  go_upto_region 1 with fail
  generalize hW : (w.alloc (.cells #[.int .u8 (x.op : Nat), .int .u8 (x.client : Nat), V64 x.number, .int .u8 (x.p.a.fam : Nat), V64 x.p.a.hi, V64 x.p.a.lo, .int .i64 x.p.bits, .int .u8 (x.a.fam : Nat), V64 x.a.hi, V64 x.a.lo, S x.owner, S x.to, V64 x.d, V64 x.fr, .int .i64 x.n] 28)).alloc (.cells #[.int .u8 (a.a.fam : Nat), V64 a.a.hi, V64 a.a.lo, S a.owner, V64 a.til, .int .u8 (a.pool.a.fam : Nat), V64 a.pool.a.hi, V64 a.pool.a.lo, .int .i64 a.pool.bits, .bool a.has, .bool a.held, .bool a.live, V64 a.clock, .slice r a.rows.length rc, .slice v a.events.length vc, .slice p a.pools.length pc] 36) = w2 at *
  clear hW
  obtain ⟨⟨c0, c1, c2, c3, c4, c5, c6, c7, c8, c9, c10, c11, c12, c13, c14⟩, -⟩ := h1.cells15
  obtain ⟨⟨a0, a1, a2, a3, a4, a5, a6, a7, a8, a9, a10, a11, a12, a13, a14, a15⟩, -⟩ := h2.cells16
  go_wp2_with fail
  all_goals (go_ret; exact ⟨rfl, hA⟩)
set_option maxRecDepth 100000 in
set_option maxHeartbeats 8000000 in
theorem greatA_4 (x : P.Ca) (a : P.An) (r : Option Addr) (rc : Nat) (v : Option Addr) (vc : Nat) (p : Option Addr) (pc : Nat) (hxo : x.owner.length ≤ 9223372036854775807) (hxt : x.to.length ≤ 9223372036854775807) (hao : a.owner.length ≤ 9223372036854775807) (hro : ∀ y ∈ a.rows, y.owner.length ≤ 9223372036854775807) (heo : ∀ y ∈ a.events, y.owner.length ≤ 9223372036854775807) (w : World) (hat : AnsAt w a r v p) (h0 : ¬ 2000 < x.owner.length) (h1x : ¬ 2000 < x.to.length) (h2x : ¬ 2000 < a.owner.length) (h3 : ¬ 40 < a.rows.length) (h4 : 40 < a.events.length) : Calls Tryd.prog 11 #[caV x, anV a r rc v vc p pc] w fun e w' => e = .returned (.bool true) ∧ Below w.heap.size w w' := by
  obtain ⟨h1, h2, hA⟩ := two_bx w #[.int .u8 (x.op : Nat), .int .u8 (x.client : Nat), V64 x.number, .int .u8 (x.p.a.fam : Nat), V64 x.p.a.hi, V64 x.p.a.lo, .int .i64 x.p.bits, .int .u8 (x.a.fam : Nat), V64 x.a.hi, V64 x.a.lo, S x.owner, S x.to, V64 x.d, V64 x.fr, .int .i64 x.n] #[.int .u8 (a.a.fam : Nat), V64 a.a.hi, V64 a.a.lo, S a.owner, V64 a.til, .int .u8 (a.pool.a.fam : Nat), V64 a.pool.a.hi, V64 a.pool.a.lo, .int .i64 a.pool.bits, .bool a.has, .bool a.held, .bool a.live, V64 a.clock, .slice r a.rows.length rc, .slice v a.events.length vc, .slice p a.pools.length pc] 28 36
  have i0 : ¬ (2000 : Int) < ((x.owner.length : Nat) : Int) := by omega
  have i1 : ¬ (2000 : Int) < ((x.to.length : Nat) : Int) := by omega
  have i2 : ¬ (2000 : Int) < ((a.owner.length : Nat) : Int) := by omega
  have i3 : ¬ (40 : Int) < ((a.rows.length : Nat) : Int) := by omega
  have i4 : (40 : Int) < ((a.events.length : Nat) : Int) := by omega
  clear h0 h1x h2x h3 h4 hat hro heo
  go_enter Tryd.func11, Tryd.ntmps11
  go_upto_region 1 with fail
  generalize hW : (w.alloc (.cells #[.int .u8 (x.op : Nat), .int .u8 (x.client : Nat), V64 x.number, .int .u8 (x.p.a.fam : Nat), V64 x.p.a.hi, V64 x.p.a.lo, .int .i64 x.p.bits, .int .u8 (x.a.fam : Nat), V64 x.a.hi, V64 x.a.lo, S x.owner, S x.to, V64 x.d, V64 x.fr, .int .i64 x.n] 28)).alloc (.cells #[.int .u8 (a.a.fam : Nat), V64 a.a.hi, V64 a.a.lo, S a.owner, V64 a.til, .int .u8 (a.pool.a.fam : Nat), V64 a.pool.a.hi, V64 a.pool.a.lo, .int .i64 a.pool.bits, .bool a.has, .bool a.held, .bool a.live, V64 a.clock, .slice r a.rows.length rc, .slice v a.events.length vc, .slice p a.pools.length pc] 36) = w2 at *
  clear hW
  obtain ⟨⟨c0, c1, c2, c3, c4, c5, c6, c7, c8, c9, c10, c11, c12, c13, c14⟩, -⟩ := h1.cells15
  obtain ⟨⟨a0, a1, a2, a3, a4, a5, a6, a7, a8, a9, a10, a11, a12, a13, a14, a15⟩, -⟩ := h2.cells16
  go_wp2_with fail
  all_goals (go_ret; exact ⟨rfl, hA⟩)
set_option maxRecDepth 100000 in
set_option maxHeartbeats 8000000 in
theorem greatA_5 (x : P.Ca) (a : P.An) (r : Option Addr) (rc : Nat) (v : Option Addr) (vc : Nat) (p : Option Addr) (pc : Nat) (hxo : x.owner.length ≤ 9223372036854775807) (hxt : x.to.length ≤ 9223372036854775807) (hao : a.owner.length ≤ 9223372036854775807) (hro : ∀ y ∈ a.rows, y.owner.length ≤ 9223372036854775807) (heo : ∀ y ∈ a.events, y.owner.length ≤ 9223372036854775807) (w : World) (hat : AnsAt w a r v p) (h0 : ¬ 2000 < x.owner.length) (h1x : ¬ 2000 < x.to.length) (h2x : ¬ 2000 < a.owner.length) (h3 : ¬ 40 < a.rows.length) (h4 : ¬ 40 < a.events.length) (h5 : 40 < a.pools.length) : Calls Tryd.prog 11 #[caV x, anV a r rc v vc p pc] w fun e w' => e = .returned (.bool true) ∧ Below w.heap.size w w' := by
  obtain ⟨h1, h2, hA⟩ := two_bx w #[.int .u8 (x.op : Nat), .int .u8 (x.client : Nat), V64 x.number, .int .u8 (x.p.a.fam : Nat), V64 x.p.a.hi, V64 x.p.a.lo, .int .i64 x.p.bits, .int .u8 (x.a.fam : Nat), V64 x.a.hi, V64 x.a.lo, S x.owner, S x.to, V64 x.d, V64 x.fr, .int .i64 x.n] #[.int .u8 (a.a.fam : Nat), V64 a.a.hi, V64 a.a.lo, S a.owner, V64 a.til, .int .u8 (a.pool.a.fam : Nat), V64 a.pool.a.hi, V64 a.pool.a.lo, .int .i64 a.pool.bits, .bool a.has, .bool a.held, .bool a.live, V64 a.clock, .slice r a.rows.length rc, .slice v a.events.length vc, .slice p a.pools.length pc] 28 36
  have i0 : ¬ (2000 : Int) < ((x.owner.length : Nat) : Int) := by omega
  have i1 : ¬ (2000 : Int) < ((x.to.length : Nat) : Int) := by omega
  have i2 : ¬ (2000 : Int) < ((a.owner.length : Nat) : Int) := by omega
  have i3 : ¬ (40 : Int) < ((a.rows.length : Nat) : Int) := by omega
  have i4 : ¬ (40 : Int) < ((a.events.length : Nat) : Int) := by omega
  have i5 : (40 : Int) < ((a.pools.length : Nat) : Int) := by omega
  clear h0 h1x h2x h3 h4 h5 hat hro heo
  go_enter Tryd.func11, Tryd.ntmps11
  go_upto_region 1 with fail
  generalize hW : (w.alloc (.cells #[.int .u8 (x.op : Nat), .int .u8 (x.client : Nat), V64 x.number, .int .u8 (x.p.a.fam : Nat), V64 x.p.a.hi, V64 x.p.a.lo, .int .i64 x.p.bits, .int .u8 (x.a.fam : Nat), V64 x.a.hi, V64 x.a.lo, S x.owner, S x.to, V64 x.d, V64 x.fr, .int .i64 x.n] 28)).alloc (.cells #[.int .u8 (a.a.fam : Nat), V64 a.a.hi, V64 a.a.lo, S a.owner, V64 a.til, .int .u8 (a.pool.a.fam : Nat), V64 a.pool.a.hi, V64 a.pool.a.lo, .int .i64 a.pool.bits, .bool a.has, .bool a.held, .bool a.live, V64 a.clock, .slice r a.rows.length rc, .slice v a.events.length vc, .slice p a.pools.length pc] 36) = w2 at *
  clear hW
  obtain ⟨⟨c0, c1, c2, c3, c4, c5, c6, c7, c8, c9, c10, c11, c12, c13, c14⟩, -⟩ := h1.cells15
  obtain ⟨⟨a0, a1, a2, a3, a4, a5, a6, a7, a8, a9, a10, a11, a12, a13, a14, a15⟩, -⟩ := h2.cells16
  go_wp2_with fail
  all_goals (go_ret; exact ⟨rfl, hA⟩)
set_option maxRecDepth 100000 in
set_option maxHeartbeats 8000000 in
theorem greatA_6 (x : P.Ca) (a : P.An) (r : Option Addr) (rc : Nat) (v : Option Addr) (vc : Nat) (p : Option Addr) (pc : Nat) (hxo : x.owner.length ≤ 9223372036854775807) (hxt : x.to.length ≤ 9223372036854775807) (hao : a.owner.length ≤ 9223372036854775807) (hro : ∀ y ∈ a.rows, y.owner.length ≤ 9223372036854775807) (heo : ∀ y ∈ a.events, y.owner.length ≤ 9223372036854775807) (w : World) (hat : AnsAt w a r v p) (h0 : ¬ 2000 < x.owner.length) (h1x : ¬ 2000 < x.to.length) (h2x : ¬ 2000 < a.owner.length) (h3 : ¬ 40 < a.rows.length) (h4 : ¬ 40 < a.events.length) (h5 : ¬ 40 < a.pools.length) : Calls Tryd.prog 11 #[caV x, anV a r rc v vc p pc] w (GreatD x a w) := by
  obtain ⟨h1, h2, hA⟩ := two_bx w #[.int .u8 (x.op : Nat), .int .u8 (x.client : Nat), V64 x.number, .int .u8 (x.p.a.fam : Nat), V64 x.p.a.hi, V64 x.p.a.lo, .int .i64 x.p.bits, .int .u8 (x.a.fam : Nat), V64 x.a.hi, V64 x.a.lo, S x.owner, S x.to, V64 x.d, V64 x.fr, .int .i64 x.n] #[.int .u8 (a.a.fam : Nat), V64 a.a.hi, V64 a.a.lo, S a.owner, V64 a.til, .int .u8 (a.pool.a.fam : Nat), V64 a.pool.a.hi, V64 a.pool.a.lo, .int .i64 a.pool.bits, .bool a.has, .bool a.held, .bool a.live, V64 a.clock, .slice r a.rows.length rc, .slice v a.events.length vc, .slice p a.pools.length pc] 28 36
  have i0 : ¬ (2000 : Int) < ((x.owner.length : Nat) : Int) := by omega
  have i1 : ¬ (2000 : Int) < ((x.to.length : Nat) : Int) := by omega
  have i2 : ¬ (2000 : Int) < ((a.owner.length : Nat) : Int) := by omega
  have i3 : ¬ (40 : Int) < ((a.rows.length : Nat) : Int) := by omega
  have i4 : ¬ (40 : Int) < ((a.events.length : Nat) : Int) := by omega
  have i5 : ¬ (40 : Int) < ((a.pools.length : Nat) : Int) := by omega
  have Hfin := Lib.hid (fun (hr : ∀ y ∈ a.rows, y.owner.length ≤ 2000) (he : ∀ y ∈ a.events, y.owner.length ≤ 2000) => show SmallA a ∧ P.greatC x = false from ⟨⟨by omega, by omega, by omega, by omega, hr, he⟩, by unfold P.greatC; rw [decide_eq_false h0, decide_eq_false h1x, Bool.or_false]⟩)
  have rowsL : a.rows.length ≤ 40 := by omega
  have eventsL : a.events.length ≤ 40 := by omega
  clear h0 h1x h2x h3 h4 h5 hxo hxt hao
  go_enter Tryd.func11, Tryd.ntmps11
  go_upto_region 1 with fail
  generalize hW : (w.alloc (.cells #[.int .u8 (x.op : Nat), .int .u8 (x.client : Nat), V64 x.number, .int .u8 (x.p.a.fam : Nat), V64 x.p.a.hi, V64 x.p.a.lo, .int .i64 x.p.bits, .int .u8 (x.a.fam : Nat), V64 x.a.hi, V64 x.a.lo, S x.owner, S x.to, V64 x.d, V64 x.fr, .int .i64 x.n] 28)).alloc (.cells #[.int .u8 (a.a.fam : Nat), V64 a.a.hi, V64 a.a.lo, S a.owner, V64 a.til, .int .u8 (a.pool.a.fam : Nat), V64 a.pool.a.hi, V64 a.pool.a.lo, .int .i64 a.pool.bits, .bool a.has, .bool a.held, .bool a.live, V64 a.clock, .slice r a.rows.length rc, .slice v a.events.length vc, .slice p a.pools.length pc] 36) = w2 at *
  clear hW
  obtain ⟨⟨c0, c1, c2, c3, c4, c5, c6, c7, c8, c9, c10, c11, c12, c13, c14⟩, -⟩ := h1.cells15
  obtain ⟨⟨a0, a1, a2, a3, a4, a5, a6, a7, a8, a9, a10, a11, a12, a13, a14, a15⟩, -⟩ := h2.cells16
  go_wp2_with fail
  go_loopw [5] (fun i wr => ∃ j : Nat, j ≤ a.rows.length ∧ i = .int .i64 ((j : Nat) : Int) ∧ (∀ y ∈ a.rows.take j, y.owner.length ≤ 2000) ∧ Bx wr (w.heap.size + 1) 36 #[.int .u8 (a.a.fam : Nat), V64 a.a.hi, V64 a.a.lo, S a.owner, V64 a.til, .int .u8 (a.pool.a.fam : Nat), V64 a.pool.a.hi, V64 a.pool.a.lo, .int .i64 a.pool.bits, .bool a.has, .bool a.held, .bool a.live, V64 a.clock, .slice r a.rows.length rc, .slice v a.events.length vc, .slice p a.pools.length pc] ∧ Below w.heap.size w wr) (fun i _ => a.rows.length - (intOf i).toNat)
  case atStart => exact ⟨0, Nat.zero_le _, rfl, fun y hy => (by simp at hy), h2, hA⟩
  case round =>
    clear h2 hA a0 a1 a2 a3 a4 a5 a6 a7 a8 a9 a10 a11 a12 a13 a14 a15 h1 c0 c1 c2 c3 c4 c5 c6 c7 c8 c9 c10 c11 c12 c13 c14
    obtain ⟨j, hj, rfl, hall, h2, hA⟩ := hrel
    obtain ⟨⟨a0, a1, a2, a3, a4, a5, a6, a7, a8, a9, a10, a11, a12, a13, a14, a15⟩, -⟩ := h2.cells16
    by_cases hjn : j < a.rows.length
    · have hji : ((j : Nat) : Int) < ((a.rows.length : Nat) : Int) := by omega
      obtain ⟨b, o, hq, hbl, k0, k1, k2, k3, k4⟩ := row_cells (RowsAt.up hat.rows hA) j hjn
      have hyo := hro _ (List.getElem_mem hjn)
      have Hnx := Lib.hid (show a.rows.take (j + 1) = a.rows.take j ++ [a.rows[j]] from by rw [List.take_add_one, List.getElem?_eq_getElem hjn]; rfl)
      have HK := Lib.hid (show j < a.rows.length ∧ a.rows.length ≤ 40 from ⟨hjn, rowsL⟩)
      generalize a.rows[j] = y at *
      subst hq
      clear hjn hat hro heo 
      by_cases hy2 : 2000 < y.owner.length
      · have hyi : (2000 : Int) < ((y.owner.length : Nat) : Int) := by omega
        clear hy2
        go_wp2_with fail
        all_goals (go_ret; exact (show GreatD _ _ _ _ _ from ⟨true, rfl, fun h => absurd h (by decide), hA⟩))
      · have hyi : ¬ (2000 : Int) < ((y.owner.length : Nat) : Int) := by omega
        have Hall := Lib.hid (show ∀ u ∈ a.rows.take (j + 1), u.owner.length ≤ 2000 from by
          intro u hu
          rw [Hnx.out] at hu
          rcases List.mem_append.1 hu with hu | hu
          · exact hall u hu
          · obtain rfl := List.mem_singleton.1 hu; omega)
        clear hall hy2
        go_wp2_with fail
        go_roundw
        case rel => exact ⟨j + 1, HK.out.1, by go_num, Hall.out, h2, hA⟩
        case measure => simp [intOf]; have := HK.out; omega
    · have hge : ¬ ((j : Nat) : Int) < ((a.rows.length : Nat) : Int) := by omega
      have Hrows := Lib.hid (show ∀ y ∈ a.rows, y.owner.length ≤ 2000 from by
        have hj2 : a.rows.take j = a.rows := List.take_of_length_le (by omega)
        rwa [hj2] at hall)
      clear hall hjn hj
      go_wp2_with fail
      go_loopw [6] (fun i wr => ∃ j : Nat, j ≤ a.events.length ∧ i = .int .i64 ((j : Nat) : Int) ∧ (∀ y ∈ a.events.take j, y.owner.length ≤ 2000) ∧ Bx wr (w.heap.size + 1) 36 #[.int .u8 (a.a.fam : Nat), V64 a.a.hi, V64 a.a.lo, S a.owner, V64 a.til, .int .u8 (a.pool.a.fam : Nat), V64 a.pool.a.hi, V64 a.pool.a.lo, .int .i64 a.pool.bits, .bool a.has, .bool a.held, .bool a.live, V64 a.clock, .slice r a.rows.length rc, .slice v a.events.length vc, .slice p a.pools.length pc] ∧ Below w.heap.size w wr) (fun i _ => a.events.length - (intOf i).toNat)
      case atStart => exact ⟨0, Nat.zero_le _, rfl, fun y hy => (by simp at hy), h2, hA⟩
      case round =>
        clear h2 hA a0 a1 a2 a3 a4 a5 a6 a7 a8 a9 a10 a11 a12 a13 a14 a15 hge
        obtain ⟨j, hj, rfl, hall, h2, hA⟩ := hrel
        obtain ⟨⟨a0, a1, a2, a3, a4, a5, a6, a7, a8, a9, a10, a11, a12, a13, a14, a15⟩, -⟩ := h2.cells16
        by_cases hjn : j < a.events.length
        · have hji : ((j : Nat) : Int) < ((a.events.length : Nat) : Int) := by omega
          obtain ⟨b, o, hq, hbl, k0, k1, k2, k3⟩ := evp_cells (RowsAt.up hat.events hA) j hjn
          have hyo := heo _ (List.getElem_mem hjn)
          have Hnx := Lib.hid (show a.events.take (j + 1) = a.events.take j ++ [a.events[j]] from by rw [List.take_add_one, List.getElem?_eq_getElem hjn]; rfl)
          have HK := Lib.hid (show j < a.events.length ∧ a.events.length ≤ 40 from ⟨hjn, eventsL⟩)
          generalize a.events[j] = y at *
          subst hq
          clear hjn hat hro heo 
          by_cases hy2 : 2000 < y.owner.length
          · have hyi : (2000 : Int) < ((y.owner.length : Nat) : Int) := by omega
            clear hy2
            go_wp2_with fail
            all_goals (go_ret; exact (show GreatD _ _ _ _ _ from ⟨true, rfl, fun h => absurd h (by decide), hA⟩))
          · have hyi : ¬ (2000 : Int) < ((y.owner.length : Nat) : Int) := by omega
            have Hall := Lib.hid (show ∀ u ∈ a.events.take (j + 1), u.owner.length ≤ 2000 from by
              intro u hu
              rw [Hnx.out] at hu
              rcases List.mem_append.1 hu with hu | hu
              · exact hall u hu
              · obtain rfl := List.mem_singleton.1 hu; omega)
            clear hall hy2
            go_wp2_with fail
            go_roundw
            case rel => exact ⟨j + 1, HK.out.1, by go_num, Hall.out, h2, hA⟩
            case measure => simp [intOf]; have := HK.out; omega
        · have hge : ¬ ((j : Nat) : Int) < ((a.events.length : Nat) : Int) := by omega
          have Hevents := Lib.hid (show ∀ y ∈ a.events, y.owner.length ≤ 2000 from by
            have hj2 : a.events.take j = a.events := List.take_of_length_le (by omega)
            rwa [hj2] at hall)
          clear hall hjn hj
          go_wp2_with fail
          go_ret
          exact (show GreatD _ _ _ _ _ from ⟨false, rfl, fun _ => Hfin.out Hrows.out Hevents.out, hA⟩)
theorem greatA_any (x : P.Ca) (a : P.An) (r : Option Addr) (rc : Nat) (v : Option Addr) (vc : Nat) (p : Option Addr) (pc : Nat) (hxo : x.owner.length ≤ 9223372036854775807) (hxt : x.to.length ≤ 9223372036854775807) (hao : a.owner.length ≤ 9223372036854775807) (hro : ∀ y ∈ a.rows, y.owner.length ≤ 9223372036854775807) (heo : ∀ y ∈ a.events, y.owner.length ≤ 9223372036854775807) (w : World) (hat : AnsAt w a r v p) : Calls Tryd.prog 11 #[caV x, anV a r rc v vc p pc] w (GreatD x a w) := by
  by_cases h0 : 2000 < x.owner.length
  · exact (greatA_0 x a r rc v vc p pc hxo hxt hao hro heo w hat h0).mono fun e w' h => ⟨true, h.1, fun hf => absurd hf (by decide), h.2⟩
  by_cases h1 : 2000 < x.to.length
  · exact (greatA_1 x a r rc v vc p pc hxo hxt hao hro heo w hat h0 h1).mono fun e w' h => ⟨true, h.1, fun hf => absurd hf (by decide), h.2⟩
  by_cases h2 : 2000 < a.owner.length
  · exact (greatA_2 x a r rc v vc p pc hxo hxt hao hro heo w hat h0 h1 h2).mono fun e w' h => ⟨true, h.1, fun hf => absurd hf (by decide), h.2⟩
  by_cases h3 : 40 < a.rows.length
  · exact (greatA_3 x a r rc v vc p pc hxo hxt hao hro heo w hat h0 h1 h2 h3).mono fun e w' h => ⟨true, h.1, fun hf => absurd hf (by decide), h.2⟩
  by_cases h4 : 40 < a.events.length
  · exact (greatA_4 x a r rc v vc p pc hxo hxt hao hro heo w hat h0 h1 h2 h3 h4).mono fun e w' h => ⟨true, h.1, fun hf => absurd hf (by decide), h.2⟩
  by_cases h5 : 40 < a.pools.length
  · exact (greatA_5 x a r rc v vc p pc hxo hxt hao hro heo w hat h0 h1 h2 h3 h4 h5).mono fun e w' h => ⟨true, h.1, fun hf => absurd hf (by decide), h.2⟩
  exact greatA_6 x a r rc v vc p pc hxo hxt hao hro heo w hat h0 h1 h2 h3 h4 h5
end Go.Proofs.YtcobfoiajdbahaaDoor
