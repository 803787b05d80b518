/- Small laws for the walks: what is above the caller's memory, step by step; strings cut. -/
import Derived.Test.YtmfabbncoekjhaaDoorWords
namespace Go.Proofs.YtmfabbncoekjhaaDoor
open Go.RowKit

theorem Chain.up {w wx wy : World} (h : Below w.heap.size w wx) (hb : Below wx.heap.size wx wy) : Below w.heap.size w wy := h.trans (hb.mono h.size)
theorem str_takeN (s : List UInt8) (m : Nat) : (ByteArray.mk s.toArray).extract 0 m = ⟨(s.take m).toArray⟩ := by
  rw [ByteArray.extract_mk]
  simp
theorem str_dropN (s : List UInt8) (k : Nat) : (ByteArray.mk s.toArray).extract k s.length = ⟨(s.drop k).toArray⟩ := by
  rw [ByteArray.extract_mk]
  congr 2
  exact List.take_of_length_le (by simp)
/-- 'string(b)' in a region that draws, b a piece of a block of bytes that is known whole. -/
theorem upon_conv_str {P : Program} {o : Oper} {a : Act} {w : World} {K : Act → World → Prop} {Q : Exit → Act → World → Prop} (src dst e t : TypeId) (g off n cap : Nat) (l r : List UInt8)
    (hs : P.underlying src = some (.slice e)) (he : P.underlying e = some (.int .u8)) (hd : P.underlying dst = some .string)
    (hB : Blk w g t l) (hn : off + n ≤ l.length) (hr : (l.drop off).take n = r) (h : K (a.put o.dst (S r)) w) :
    Oper.upon P o a K Q (((convert src dst (.slice (some ⟨g, off, none⟩) n cap)).run P w).andThen fun a w' => Result.ok (Next.value a) w') := by
  have hrun := hB.string (P := P) src dst e hs he hd off n cap hn
  rw [hr] at hrun
  rw [hrun]
  exact h
theorem le32_cells (x : BitVec 32) : (#[Value.int .u8 (IntKind.u8.wrap (n32 x)), Value.int .u8 (IntKind.u8.wrap (n32 x / (256 : Int))), Value.int .u8 (IntKind.u8.wrap (n32 x / (65536 : Int))), Value.int .u8 (IntKind.u8.wrap (n32 x / (16777216 : Int)))] : Array Value) = bytesV (P.le32 x) := by
  rw [b32_shr8, b32_div65536, b32_div16777216, u8_wrap_b32, u8_wrap_b32, u8_wrap_b32, u8_wrap_b32]
  rfl
end Go.Proofs.YtmfabbncoekjhaaDoor
