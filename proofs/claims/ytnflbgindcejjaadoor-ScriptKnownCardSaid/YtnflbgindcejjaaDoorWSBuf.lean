/- The bytes.Buffer that the script writes: its contracts over lists of bytes. -/
import Derived.Test.YtnflbgindcejjaaDoorShelfBuf
import Derived.Test.YtnflbgindcejjaaDoorWSRight2
import Derived.Test.YtnflbgindcejjaaDoorWTexts
import Derived.Test.YtnflbgindcejjaaDoorWBigP
import Derived.Shelf.Bytes.GrowOwn
import Derived.Lib.BufferWrite
import Derived.Lib.BufferKept
import Derived.Laws.IdiomCopy
namespace Go.Proofs.YtnflbgindcejjaaDoor
open Go.RowKit
set_option linter.unusedVariables false
set_option linter.unusedSimpArgs false

/-- A buffer that the call made, which holds the bytes l. -/
def Buf (w : World) (B g : Nat) (l : List UInt8) : Prop := Lib.IsBuffer 52 5 B g (l.map u8V) w
/-- What a write leaves as it was. -/
def BufK (B g : Nat) (w w' : World) : Prop := Below B w w' ∧ Lib.OthersKept 5 (some g) w w'
theorem BufK.refl (B g : Nat) (w : World) : BufK B g w w := ⟨Below.refl _ _, Lib.OthersKept.refl _ _ _⟩
theorem BufK.trans {B g : Nat} {a b c : World} (h : BufK B g a b) (k : BufK B g b c) : BufK B g a c := ⟨h.1.trans k.1, h.2.trans k.2⟩
theorem BufK.up {B g : Nat} {a b c : World} (h : BufK B g a b) (hb : Below b.heap.size b c) (hB : B ≤ b.heap.size) : BufK B g a c := ⟨h.1.trans (hb.mono hB), h.2.below hb⟩
theorem Buf.up {w w' : World} {B g : Nat} {l : List UInt8} (h : Buf w B g l) (hb : Below w.heap.size w w') : Buf w' B g l := by
  obtain ⟨h1, v, lr, h2, h3, h4⟩ := h
  have hlt : g < w.heap.size := by
    rcases Nat.lt_or_ge g w.heap.size with hh | hh
    · exact hh
    · rw [Array.getElem?_eq_none hh] at h2; cases h2
  refine ⟨h1, v, lr, (hb.block g hlt).trans h2, ?_, h4⟩
  obtain ⟨q1, q2⟩ := h3
  refine ⟨q1, ?_⟩
  rcases q2 with q2 | ⟨q, cap, cur, e1, e2, e3, e4⟩
  · exact .inl q2
  · have hq : q < w.heap.size := by
      rcases Nat.lt_or_ge q w.heap.size with hh | hh
      · exact hh
      · rw [Array.getElem?_eq_none hh] at e3; cases e3
    exact .inr ⟨q, cap, cur, e1, e2, (hb.block q hq).trans e3, e4⟩
theorem Bx.bufK {w w' : World} {B g q : Nat} {t : TypeId} {cs : Array Value} (h : Bx w q t cs) (hk : BufK B g w w') (hne : q ≠ g) (ht : t ≠ 5) : Bx w' q t cs :=
  hk.2 q _ h (by simpa using hne) (by intro c fz he; injection he with _ he; exact ht he)
theorem Buf.lt {w : World} {B g : Nat} {l : List UInt8} (h : Buf w B g l) : g < w.heap.size := Lib.IsBuffer.lt h
theorem Buf.ge {w : World} {B g : Nat} {l : List UInt8} (h : Buf w B g l) : B ≤ g := h.1
theorem u8V_one (l : List UInt8) : ∀ v ∈ l.map u8V, v.oneCell' = true := by
  intro v hv
  obtain ⟨c, _, rfl⟩ := List.mem_map.1 hv
  rfl
theorem u8V_byt {n : Nat} (h : n < 256) : u8V (P.byt n) = .int .u8 (n : Int) := by
  unfold u8V
  rw [P.byt_toNat, Nat.mod_eq_of_lt h]
theorem bufByte (B g : Nat) (l : List UInt8) (n : Nat) (w : World) (hn : n < 256) (h : Buf w B g l) (hB : B ≤ w.heap.size) (hl : l.length ≤ 1000000000) :
    Calls Tryd.prog 29 #[.pointer (some ⟨g, 0, none⟩), .int .u8 (n : Int)] w fun e w' => e = .returned .nilIface ∧ Buf w' B g (l ++ [P.byt n]) ∧ BufK B g w w' :=
  (Tryd.Buffer_WriteByte_k B g (l.map u8V) n w h hB (u8V_one l) (by rw [List.length_map]; omega)).mono fun e w' ⟨h1, h2, h3, h4⟩ => ⟨h1, by unfold Buf; rw [List.map_append, List.map_cons, List.map_nil, u8V_byt hn]; exact h2, h3, h4⟩
theorem bufStr (B g : Nat) (l s : List UInt8) (w : World) (h : Buf w B g l) (hB : B ≤ w.heap.size) (hl : l.length ≤ 1000000000) (hs : s.length ≤ 1000000000) :
    Calls Tryd.prog 30 #[.pointer (some ⟨g, 0, none⟩), S s] w fun e w' => ∃ v, e = .returned v ∧ Buf w' B g (l ++ s) ∧ BufK B g w w' :=
  (Tryd.Buffer_WriteString_k B g (l.map u8V) ⟨s.toArray⟩ w h hB (u8V_one l) (by rw [List.length_map]; show l.length + s.toArray.size ≤ _; simp; omega)).mono fun e w' ⟨h1, h2, h3, h4⟩ => ⟨_, h1, by
    unfold Buf
    rw [List.map_append]
    have e1 : Lib.byteCells (ByteArray.mk s.toArray).data.toList = s.map u8V := rfl
    rw [e1] at h2
    exact h2, h3, h4⟩

set_option maxRecDepth 100000 in
set_option maxHeartbeats 4000000 in
theorem bufNil (B g : Nat) (l : List UInt8) (w : World) (a : Option Addr) (c : Nat) (h : Buf w B g l) (hB : B ≤ w.heap.size) :
    Calls Tryd.prog 33 #[.pointer (some ⟨g, 0, none⟩), .slice a 0 c] w fun e w' => ∃ v, e = .returned v ∧ Buf w' B g l ∧ BufK B g w w' := by
  obtain ⟨hBg, v0, lr, hbk, -, -⟩ := id h
  have c2 : w.cell? ⟨g, 2, none⟩ = some (.int .i8 lr) := by rw [Lib.cell_of_heap hbk]; rfl
  have f2 : w.frozen? ⟨g, 2, none⟩ = false := Lib.frozen_of_heap hbk 2
  have h' := Lib.IsBuffer.setLast h 0
  have hbel0 : Below B w (w.setCell ⟨g, 2, none⟩ (.int .i8 0)) := (Below.refl B w).setCell (p := ⟨g, 2, none⟩) hBg _
  have hk0 : Lib.OthersKept 5 (some g) w (w.setCell ⟨g, 2, none⟩ (.int .i8 0)) := (Lib.OthersKept.refl _ _ w).setCell ⟨g, 2, none⟩ rfl _
  clear hbk v0
  have hinfo : (Tryd.prog.info? 5).map (·.size) = some 1 := by kernel_rfl
  have hce := fun d dLen dCap W => run_copy_none (P := Tryd.prog) W 30 30 3 5 d a dLen dCap 0 c Tryd.underlying30 hinfo (by simp)
  have HT := Lib.hid (fun W (hW : Lib.IsBuffer 52 5 B g (l.map u8V) W) => show Calls Tryd.prog 47 #[.pointer (some ⟨g, 0, none⟩), .int .i64 0] W _ from Any.Buffer_tryGrow_own { Tryd.laysM180 with } B g 0 (l.map u8V) W hW)
  go_enter Tryd.func33, Tryd.ntmps33
  go_wp2_with fail
  (with_reducible refine (HT.out _ h').mono ?_)
  rintro e W1 (⟨rfl, xs, hxl, hI, hbel, hk, -⟩ | ⟨rfl, rfl, hnr⟩)
  · obtain rfl : xs = [] := List.eq_nil_of_length_eq_zero hxl
    rw [List.append_nil] at hI
    have hkk : BufK B g w W1 := ⟨hbel0.trans hbel, hk0.trans hk⟩
    clear h' c2 f2 HT hbel0 hk0 hbel hk
    obtain ⟨-, lr2, hc⟩ := hI.cases
    rcases hc with ⟨hb0, hbk2⟩ | ⟨q, cap, cur, hbk2, -, -, hnc, hcm, -, -, -⟩
    · have hl0 : l = [] := by simpa using hb0
      subst hl0
      have d0 : W1.cell? ⟨g, 0, none⟩ = some (.slice none 0 0) := by rw [Lib.cell_of_heap hbk2]; rfl
      go_wp2
      go_ret2
      first | exact ⟨_, rfl, hI, hkk⟩ | exact ⟨⟨_, rfl⟩, hI, hkk⟩
    · have d0 : W1.cell? ⟨g, 0, none⟩ = some (.slice (some ⟨q, 0, none⟩) (l.map u8V).length cap) := by rw [Lib.cell_of_heap hbk2]; rfl
      unfold maxLen at hcm
      generalize (l.map u8V).length = n at *
      go_wp2
      all_goals (go_ret2; first | exact ⟨_, rfl, hI, hkk⟩ | exact ⟨⟨_, rfl⟩, hI, hkk⟩)
  · obtain ⟨_, _, _, _, hlt⟩ := hnr
    omega
/-- An act's draws in memory. -/
def DrawsAt (w : World) (a : Option Addr) (l : List UInt8) : Prop := l = [] ∨ ∃ b o, a = some ⟨b, o, none⟩ ∧ b < w.heap.size ∧ ∀ (j : Nat) (h : j < l.length), w.cell? ⟨b, o + j, none⟩ = some (u8V l[j])
theorem DrawsAt.up {w w' : World} {a : Option Addr} {l : List UInt8} (h : DrawsAt w a l) (hb : Below w.heap.size w w') : DrawsAt w' a l := by
  rcases h with h | ⟨b, o, h1, h2, h3⟩
  · exact .inl h
  · exact .inr ⟨b, o, h1, Nat.lt_of_lt_of_le h2 hb.size, fun j hj => (hb.cell (p := ⟨b, o + j, none⟩) h2).trans (h3 j hj)⟩
theorem bufDraws (w0 : World) (g : Nat) (l d : List UInt8) (a : Option Addr) (n c : Nat) (w : World) (hn : n = d.length) (hc : a = none → c = 0) (h : Buf w w0.heap.size g l) (hw : Below w0.heap.size w0 w) (hl : l.length ≤ 1000000000) (hs : d.length ≤ 1000000000) (hd : DrawsAt w0 a d) :
    Calls Tryd.prog 33 #[.pointer (some ⟨g, 0, none⟩), .slice a n c] w fun e w' => ∃ v, e = .returned v ∧ Buf w' w0.heap.size g (l ++ d) ∧ BufK w0.heap.size g w w' := by
  subst hn
  rcases hd with rfl | ⟨b, o, rfl, h2, h3⟩
  · rw [List.append_nil]
    exact bufNil _ g l w a c h hw.size
  · have hge := h.ge
    refine (Tryd.Buffer_Write_any w0.heap.size g (l.map u8V) (d.map u8V) ⟨b, o, none⟩ d.length c w h hw.size (u8V_one l) (by simp) (by show b ≠ g; omega) (fun j v hj => ?_) (u8V_one d) (by rw [List.length_map]; omega)).mono fun e w' ⟨q1, q2, q3, q4⟩ => ⟨_, q1, by unfold Buf; rw [List.map_append]; exact q2, q3, q4⟩
    rw [Lib.addr_add]
    rw [List.getElem?_map] at hj
    rcases Nat.lt_or_ge j d.length with hlt | hge
    · rw [List.getElem?_eq_getElem hlt] at hj
      injection hj with hj
      rw [hw.cell (p := ⟨b, o + j, none⟩) h2, h3 j hlt, hj]
    · rw [List.getElem?_eq_none hge] at hj; cases hj
end Go.Proofs.YtnflbgindcejjaaDoor
