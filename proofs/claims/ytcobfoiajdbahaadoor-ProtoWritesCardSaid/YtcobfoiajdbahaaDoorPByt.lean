/- Plain law: a byte out of a number, byte i of a text. No program here. -/
import Derived.Below
namespace Go.Proofs.YtcobfoiajdbahaaDoor.P

def byt (n : Nat) : UInt8 := UInt8.ofNat n
theorem byt_toNat (n : Nat) : (byt n).toNat = n % 256 := by simp [byt]
def at_ (s : List UInt8) (i : Nat) : Nat := (s.getD i 0).toNat
theorem at_lt (s : List UInt8) (i : Nat) : at_ s i < 256 := by
  have := (s.getD i 0).toNat_lt
  unfold at_; omega
theorem at_get (s : List UInt8) (i : Nat) (h : i < s.length) : s[i].toNat = at_ s i := by
  unfold at_
  simp [List.getD_eq_getElem?_getD, h]
theorem byt_eq (c : UInt8) : byt c.toNat = c := by simp [byt]
theorem byt_inj {a b : Nat} (ha : a < 256) (hb : b < 256) (h : byt a = byt b) : a = b := by
  have := congrArg UInt8.toNat h
  rw [byt_toNat, byt_toNat] at this
  omega
theorem toNat_inj {a b : UInt8} (h : a.toNat = b.toNat) : a = b := UInt8.toNat_inj.1 h
end Go.Proofs.YtcobfoiajdbahaaDoor.P
