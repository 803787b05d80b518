/- FrameMore: frames of records are those of some, and those of the others behind them. The walk of the law. -/
import Derived.Test.YtmfabbncoekjhaaDoorWLaw4
import Derived.Test.YtmfabbncoekjhaaDoorPFrame2
import Derived.Test.YtmfabbncoekjhaaDoorWOwnS2
namespace Go.Proofs.YtmfabbncoekjhaaDoor
open Go.RowKit
set_option linter.unusedVariables false

attribute [local go_sem] str_takeN str_dropN ByteArray.mk_append_mk

theorem great_bytes {ss : List (List UInt8)} (h : P.great ss = false) : P.fbytes ss = P.frames ss ∧ P.ferr ss = 0 := by
  have hg := (P.great_not h).2.2
  unfold P.fbytes P.ferr
  rw [hg]
  exact ⟨rfl, rfl⟩

set_option maxRecDepth 100000 in
set_option maxHeartbeats 4000000 in
theorem law_more (a : Option Addr) (c : Nat) (l : List (List UInt8)) (a' : Option Addr) (c' : Nat) (m : List (List UInt8)) (w : World) (hl9 : l.length ≤ 9223372036854775807) (hls : ∀ r ∈ l, r.length ≤ 9223372036854775807) (hp : StrsAt w a l) (hna : a = none → c = 0)
    (hm9 : m.length ≤ 9223372036854775807) (hms : ∀ r ∈ m, r.length ≤ 9223372036854775807) (hq : StrsAt w a' m) (hnb : a' = none → c' = 0) (ht : TabOk w) :
    Calls Tryd.prog 9 #[.slice a l.length c, .slice a' m.length c'] w fun e w' => e = .returned (.bool true) ∧ Below w.heap.size w w' := by
  have HG1 := Lib.hid (fun wx (hx : Below w.heap.size w wx) => great_any a c l wx hl9 (hp.up hx))
  have HG2 := Lib.hid (fun wx (hx : Below w.heap.size w wx) => great_any a' c' m wx hm9 (hq.up hx))
  have hc : Below w.heap.size w w := Below.refl _ _
  cases hg1 : P.great l with
  | true =>
    rw [hg1] at HG1
    go_enter Tryd.func9, Tryd.ntmps9
    go_wp2_with (first
      | (go_at_call 14; (with_reducible refine (HG1.out _ hc).mono ?_); rintro e w1 ⟨rfl, hb1⟩)
      | (go_at_call 13; (with_reducible refine (awake_any _ (ht.up hb1)).mono ?_); rintro e w2 ⟨rfl, hb2⟩))
    go_ret
    exact ⟨rfl, Chain.up hb1 hb2⟩
  | false =>
    rw [hg1] at HG1
    cases hg2 : P.great m with
    | true =>
      rw [hg2] at HG2
      go_enter Tryd.func9, Tryd.ntmps9
      go_wp2_with (first
        | (go_at_call 14; (with_reducible refine (HG1.out _ hc).mono ?_); rintro e w1 ⟨rfl, hb1⟩)
        | (go_at_call 14; (with_reducible refine (HG2.out _ hb1).mono ?_); rintro e w2 ⟨rfl, hb2⟩; have hc2 := Chain.up hb1 hb2)
        | (go_at_call 13; (with_reducible refine (awake_any _ (ht.up hc2)).mono ?_); rintro e w3 ⟨rfl, hb3⟩))
      go_ret
      exact ⟨rfl, Chain.up hc2 hb3⟩
    | false =>
      rw [hg2] at HG2
      have n1 := P.great_not hg1
      have n2 := P.great_not hg2
      have s1 := P.frames_small hg1
      have s2 := P.frames_small hg2
      have hok : ∀ r ∈ l ++ m, r.length ≤ 524288 := fun r hr => by
        rcases List.mem_append.1 hr with h | h
        · exact (P.fok_iff l).1 n1.2.2 r h
        · exact (P.fok_iff m).1 n2.2.2 r h
      have hokb : P.fok (l ++ m) = true := (P.fok_iff _).2 hok
      have HW1 := Lib.hid (fun wx (hx : Below w.heap.size w wx) => writeF_any a c l wx (by omega) (hp.up hx) hls (ht.up hx))
      have HW2 := Lib.hid (fun wx (hx : Below w.heap.size w wx) => writeF_any a' c' m wx (by omega) (hq.up hx) hms (ht.up hx))
      have HW3 := Lib.hid (fun a3 c3 wx (h3 : StrsAt wx a3 (l ++ m)) (hx : Below w.heap.size w wx) => writeF_any a3 c3 (l ++ m) wx (by simp; omega) h3 (fun r hr => by have := hok r hr; omega) (ht.up hx))
      have HR := Lib.hid (fun wx (hx : Below w.heap.size w wx) => readF_any (P.frames l ++ P.frames m) wx (by simp; omega) (ht.up hx))
      have hfw := P.frames_whole (l ++ m) [] hok P.one_nil
      rw [List.append_nil, P.frames_append] at hfw
      rw [(great_bytes hg1).1, (great_bytes hg1).2] at HW1
      rw [(great_bytes hg2).1, (great_bytes hg2).2] at HW2
      rw [show P.fbytes (l ++ m) = P.frames l ++ P.frames m by unfold P.fbytes; rw [hokb, ← P.frames_append]; rfl, show P.ferr (l ++ m) = 0 by unfold P.ferr; rw [hokb]; rfl] at HW3
      rw [hfw.1, hfw.2] at HR
      have HS := Lib.hid (fun a3 c3 a4 c4 wx h3 h4 => same_any a3 a4 c3 c4 (l ++ m) (l ++ m) wx (by simp; omega) (by simp; omega) h3 h4)
      rw [show ((l ++ m) == (l ++ m)) = true by simp] at HS
      rw [List.length_append] at HW3 HR HS
      generalize P.frames l = f1 at *
      generalize P.frames m = f2 at *
      have HP := Lib.hid hp
      have HQ := Lib.hid hq
      have hlb : ([] : List (List UInt8)).length + l.length < 1000000000000 := by simp; omega
      have hmb : l.length + m.length < 1000000000000 := by omega
      have hcat : ¬ 9223372036854775807 < f1.length + f2.length := by omega
      clear hfw hokb hok n1 n2 hp hq hg1 hg2
      go_enter Tryd.func9, Tryd.ntmps9
      go_wp2_with (first
        | (go_at_call 14; (with_reducible refine (HG1.out _ hc).mono ?_); rintro e w1 ⟨rfl, hb⟩; replace hc := Chain.up hc hb; clear hb)
        | (go_at_call 14; (with_reducible refine (HG2.out _ hc).mono ?_); rintro e w2 ⟨rfl, hb⟩; replace hc := Chain.up hc hb; clear hb)
        | (go_at_call 10; (with_reducible refine (HW1.out _ hc).mono ?_); rintro e w3 ⟨rfl, hb⟩; replace hc := Chain.up hc hb; clear hb)
        | (go_at_call 10; (with_reducible refine (HW2.out _ hc).mono ?_); rintro e w4 ⟨rfl, hb⟩; replace hc := Chain.up hc hb; clear hb)
        | (at_builtin; refine wpList_spreadS (by rfl) _ _ (by rfl) _ _ [] l a c (by rfl) (ownS_empty _ _ (Nat.le_refl _)) hlb (by rfl) (HP.out.up (hc.alloc hc.size _)) hna (Below.size ((Below.refl _ _).alloc (Nat.le_refl _) _)) ?_; intro v5 w5 hown hb; have hb5 := ((Below.refl _ _).alloc (Nat.le_refl _) (.cells #[] 9)).trans hb; clear hb; rw [List.nil_append] at hown)
        | (at_builtin; refine wpList_unguard (by rfl) ?_; refine wpList_spreadS (by rfl) _ _ (by rfl) _ _ [] l a c (by rfl) (ownS_empty _ _ (Nat.le_refl _)) hlb (by rfl) (HP.out.up (hc.alloc hc.size _)) hna (Below.size ((Below.refl _ _).alloc (Nat.le_refl _) _)) ?_; intro v5 w5 hown hb; have hb5 := ((Below.refl _ _).alloc (Nat.le_refl _) (.cells #[] 9)).trans hb; clear hb; rw [List.nil_append] at hown)
        | (at_builtin; refine wpList_spreadS (by rfl) _ _ (by rfl) _ _ l m a' c' (by rfl) hown hmb (by rfl) (HQ.out.up (Chain.up hc hb5)) hnb hb5.size ?_; intro v6 w6 hown2 hb; have hb6 := hb5.trans hb; replace hc := Chain.up hc hb6; clear hb; obtain ⟨a6, c6, rfl, hst⟩ := hown2.is)
        | (at_builtin; refine wpList_unguard (by rfl) ?_; refine wpList_spreadS (by rfl) _ _ (by rfl) _ _ l m a' c' (by rfl) hown hmb (by rfl) (HQ.out.up (Chain.up hc hb5)) hnb hb5.size ?_; intro v6 w6 hown2 hb; have hb6 := hb5.trans hb; replace hc := Chain.up hc hb6; clear hb; obtain ⟨a6, c6, rfl, hst⟩ := hown2.is)
        | (go_at_call 10; (with_reducible refine (HW3.out _ _ _ hst hc).mono ?_); rintro e w7 ⟨rfl, hb⟩; replace hc := Chain.up hc hb; clear hb)
        | (go_at_call 11; (with_reducible refine (HR.out _ hc).mono ?_); rintro e w8 ⟨a8, c8, rfl, hst8, hb⟩; replace hc := Chain.up hc hb; clear hb)
        | (go_at_call 12; (with_reducible refine (HS.out _ _ _ _ _ (hst8.up hb6) hst).mono ?_); rintro e w9 ⟨rfl, hb⟩; replace hc := Chain.up hc hb; clear hb)
        | (go_at_call 13; (with_reducible refine (awake_any _ (ht.up hc)).mono ?_); rintro e w10 ⟨rfl, hb⟩; replace hc := Chain.up hc hb; clear hb))
      go_ret
      exact ⟨rfl, hc⟩
end Go.Proofs.YtmfabbncoekjhaaDoor
