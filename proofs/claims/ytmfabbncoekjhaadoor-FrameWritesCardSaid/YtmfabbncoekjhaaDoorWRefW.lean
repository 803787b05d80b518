/- The walks of the document's Write, first and Read. -/
import Derived.Test.YtmfabbncoekjhaaDoorWRefF
import Derived.Test.YtmfabbncoekjhaaDoorPFrame2
namespace Go.Proofs.YtmfabbncoekjhaaDoor
open Go.RowKit
set_option linter.unusedVariables false

attribute [local go_sem] str_takeN str_dropN ByteArray.mk_append_mk

set_option maxRecDepth 100000 in
set_option maxHeartbeats 4000000 in
theorem refWriteF_any (a : Option Addr) (c : Nat) (ss : List (List UInt8)) (w : World) (hlen : ss.length ≤ 10000) (hp : StrsAt w a ss) (hsl : ∀ l ∈ ss, l.length ≤ 9223372036854775807) :
    Calls Tryd.prog 15 #[.slice a ss.length c] w fun e w' => e = .returned (.tuple #[S (P.fbytes ss), .int .i64 (P.ferr ss)]) ∧ Below w.heap.size w w' := by
  have Hp := Lib.hid hp
  have Hl := Lib.hid hsl
  clear hp hsl
  go_enter Tryd.func15, Tryd.ntmps15
  go_wp2
  go_loopw [4, 5] (fun s i wr => ∃ k : Nat, k ≤ ss.length ∧ i = .int .i64 k ∧ s = S (P.frames (ss.take k)) ∧ (∀ r ∈ ss.take k, r.length ≤ 524288) ∧ Below w.heap.size w wr) (fun _ i _ => ss.length - (intOf i).toNat)
  case atStart => exact ⟨0, by omega, rfl, rfl, fun r hr => by simp at hr, Below.refl _ _⟩
  case round =>
    obtain ⟨k, hk, rfl, rfl, hall, hb⟩ := hrel
    by_cases hlt : k < ss.length
    · obtain ⟨bk, o, rfl, hbb, hc⟩ := Hp.out k hlt
      have hc0 := (hb.cell (p := ⟨bk, o + k, none⟩) hbb).trans hc
      have hle := Hl.out ss[k] (List.getElem_mem _)
      have Htk := Lib.hid (List.take_succ_eq_append_getElem hlt)
      have Hmem := Lib.hid (List.getElem_mem hlt)
      clear hc
      by_cases hbig : 524288 < ss[k].length
      · have Hno := Lib.hid (show P.fok ss = false by
          cases h : P.fok ss with
          | false => rfl
          | true => have := (P.fok_iff ss).1 h _ Hmem.out; omega)
        generalize ss[k] = s at *
        go_wp2
        exact bodyPost_ret (v := .tuple #[S [], .int .i64 3]) (by simp [results, Tryd.results15, go_sem]) rfl ⟨by unfold P.fbytes P.ferr; rw [Hno.out]; rfl, hb⟩
      · have hall' : ∀ r ∈ ss.take (k + 1), r.length ≤ 524288 := by
          intro r hr
          rw [Htk.out] at hr
          rcases List.mem_append.1 hr with hr | hr
          · exact hall r hr
          · obtain rfl := List.mem_singleton.1 hr
            omega
        have Hfr := Lib.hid (show P.frames (ss.take (k + 1)) = P.frames (ss.take k) ++ P.frame ss[k] by rw [Htk.out, P.frames_snoc])
        have hfl := P.frames_len _ hall
        have hfl2 : (P.frames (ss.take k)).length ≤ 10000000000 := by simp at hfl; omega
        have hfl3 : (P.frame ss[k]).length ≤ 1000000 := by rw [P.frame_length]; have := P.cells_le ss[k].length; omega
        have Hall := Lib.hid hall'
        generalize ss[k] = s at *
        have hsb : s.length ≤ 524288 := by omega
        have HP := Lib.hid (fun wx => refFrame_any s wx hsb)
        generalize P.frames (ss.take k) = l at *
        generalize P.frame s = z at *
        have hadd : ¬ 9223372036854775807 < l.length + z.length := by omega
        clear hall hall' hfl
        go_wp2_with (go_at_call 21; (with_reducible refine (HP.out _).mono ?_); rintro e w1 ⟨rfl, hb1⟩)
        go_roundw
        case rel => exact ⟨k + 1, by omega, by go_num, by rw [Hfr.out], Hall.out, Chain.up hb hb1⟩
        case measure => simp [intOf]; omega
    · obtain rfl : k = ss.length := by omega
      rw [List.take_length] at hall ⊢
      have Hf := Lib.hid (show P.fbytes ss = P.frames ss ∧ P.ferr ss = 0 by unfold P.fbytes P.ferr; rw [(P.fok_iff ss).2 hall]; exact ⟨rfl, rfl⟩)
      generalize P.frames ss = l at *
      go_wp2
      exact bodyPost_ret (v := .tuple #[S l, .int .i64 0]) (by simp [results, Tryd.results15, go_sem]) rfl ⟨by rw [Hf.out.1, Hf.out.2]; rfl, hb⟩

set_option maxRecDepth 100000 in
set_option maxHeartbeats 4000000 in
theorem first_any (s : List UInt8) (w : World) (hs : s.length ≤ 1000000000000) :
    Calls Tryd.prog 22 #[S s] w fun e w' => e = .returned (.tuple #[S (P.oneR s), .bool (P.one s).isSome]) ∧ Below w.heap.size w w' := by
  go_enter Tryd.func22, Tryd.ntmps22
  go_wp2
  go_loopw [4, 5] (fun z n wr => ∃ (k : Nat) (acc : List UInt8), n = .int .i64 k ∧ z = S acc ∧ 32 * k ≤ s.length ∧ acc.length ≤ 24 * k ∧ acc.length ≤ 524288 ∧ P.one s = P.oneFrom (s.drop (32 * k)) k acc ∧ Below w.heap.size w wr) (fun _ n _ => s.length - (intOf n).toNat)
  case atStart => exact ⟨0, [], rfl, rfl, by omega, by simp, by simp, rfl, Below.refl _ _⟩
  case round =>
    obtain ⟨k, acc, rfl, rfl, hk, hacc, haccb, hone, hb⟩ := hrel
    have Hone := Lib.hid hone
    clear hone
    have Hnone := Lib.hid (show P.one s = none → P.oneR s = [] ∧ (P.one s).isSome = false from fun h => ⟨(P.one_no h).1, by rw [h]; rfl⟩)
    by_cases hend : s.length < 32 * k + 32
    · have Hno := Lib.hid (Hnone.out (by rw [Hone.out]; exact P.one_end (.inl (by simp; omega))))
      have hei : (s.length : Int) < 32 * (k : Int) + 32 := by omega
      go_wp2
      exact bodyPost_ret (v := .tuple #[S [], .bool false]) (by simp [results, Tryd.results22, go_sem]) rfl ⟨by rw [Hno.out.1, Hno.out.2], hb⟩
    · have hei : 32 * (k : Int) + 32 ≤ (s.length : Int) := by omega
      have hmid := str_mid s (32 * k)
      have HR := Lib.hid (fun wx => refRead_any ((s.drop (32 * k)).take 32) wx (by simp; omega))
      have Hdl := Lib.hid (show (s.drop (32 * k)).length = s.length - 32 * k by simp)
      have Hdd := Lib.hid (show (s.drop (32 * k)).drop 32 = s.drop (32 * (k + 1)) by rw [List.drop_drop]; congr 1)
      have hmidi : (0 : Int) ≤ 32 * (k : Int) := by omega
      by_cases hrd : P.reads ((s.drop (32 * k)).take 32) = true
      · have Hcd := Lib.hid (P.read_is hrd)
        have hdl := P.may_len (P.reads_may hrd)
        rw [Hcd.out, hrd] at HR
        by_cases hnum : (P.cand ((s.drop (32 * k)).take 32)).num = k
        · have Hr := Lib.hid (And.intro hrd hnum)
          have Hlast := Lib.hid (fun a b => P.one_last (s := s.drop (32 * k)) (acc := acc) (n := k) (by rw [Hdl.out]; omega) haccb Hr.out a b)
          have Hmore := Lib.hid (fun a => P.one_more (s := s.drop (32 * k)) (acc := acc) (n := k) (by rw [Hdl.out]; omega) haccb Hr.out a)
          have Hwide := Lib.hid (fun a => P.one_wide (s := s.drop (32 * k)) (acc := acc) (n := k) a)
          rw [Hdd.out, ← Hone.out] at Hmore
          rw [← Hone.out] at Hlast Hwide
          clear Hcd Hr
          generalize (s.drop (32 * k)).take 32 = e at *
          generalize P.cand e = c at *
          obtain ⟨f, l, n, d⟩ := c
          simp only at hnum hdl
          subst hnum
          by_cases hbig : 524288 < (acc ++ d).length
          · have Hno := Lib.hid (Hnone.out (Hwide.out hbig))
            have hfi : (524288 : Int) < (acc.length : Int) + (d.length : Int) := by simp at hbig; omega
            go_wp2_with (go_at_call 28; (with_reducible refine (HR.out _).mono ?_); rintro e w2 ⟨rfl, hb2⟩; have hb3 := Chain.up hb hb2)
            exact bodyPost_ret (v := .tuple #[S [], .bool false]) (by simp [results, Tryd.results22, go_sem]) rfl ⟨by rw [Hno.out.1, Hno.out.2], hb3.alloc hb3.size _⟩
          · have hle : (acc ++ d).length ≤ 524288 := by omega
            have hfi : (acc.length : Int) + (d.length : Int) ≤ 524288 := by simp at hle; omega
            have hadd : ¬ 9223372036854775807 < acc.length + d.length := by omega
            cases l with
            | true =>
              have Hi := Lib.hid (Hlast.out rfl hle)
              have Hi2 := Lib.hid (show P.oneR s = acc ++ d ∧ (P.one s).isSome = true from ⟨(P.one_is Hi.out).1, by rw [Hi.out]; rfl⟩)
              go_wp2_with (go_at_call 28; (with_reducible refine (HR.out _).mono ?_); rintro e w2 ⟨rfl, hb2⟩; have hb3 := Chain.up hb hb2)
              exact bodyPost_ret (v := .tuple #[S (acc ++ d), .bool true]) (by simp [results, Tryd.results22, go_sem]) rfl ⟨by rw [Hi2.out.1, Hi2.out.2], hb3.alloc hb3.size _⟩
            | false =>
              have Hm := Lib.hid (Hmore.out (fun h => by cases h.1))
              go_wp2_with (go_at_call 28; (with_reducible refine (HR.out _).mono ?_); rintro e w2 ⟨rfl, hb2⟩; have hb3 := Chain.up hb hb2)
              go_roundw
              case rel => exact ⟨k + 1, acc ++ d, by go_num, by simp, by omega, by simp; omega, hle, Hm.out, hb3.alloc hb3.size _⟩
              case measure => simp [intOf]; omega
        · have Hno := Lib.hid (Hnone.out (by rw [Hone.out]; exact P.one_bad (fun h => hnum h.2)))
          clear Hcd
          generalize (s.drop (32 * k)).take 32 = e at *
          generalize P.cand e = c at *
          obtain ⟨f, l, n, d⟩ := c
          simp only at hnum hdl
          go_wp2_with (go_at_call 28; (with_reducible refine (HR.out _).mono ?_); rintro e w2 ⟨rfl, hb2⟩; have hb3 := Chain.up hb hb2)
          exact bodyPost_ret (v := .tuple #[S [], .bool false]) (by simp [results, Tryd.results22, go_sem]) rfl ⟨by rw [Hno.out.1, Hno.out.2], hb3.alloc hb3.size _⟩
      · have hrd' : P.reads ((s.drop (32 * k)).take 32) = false := by simpa using hrd
        have Hno := Lib.hid (Hnone.out (by rw [Hone.out]; exact P.one_bad (fun h => hrd h.1)))
        rw [hrd'] at HR
        clear hrd hrd'
        generalize (s.drop (32 * k)).take 32 = e at *
        generalize P.read e = c at *
        obtain ⟨f, l, n, d⟩ := c
        go_wp2_with (go_at_call 28; (with_reducible refine (HR.out _).mono ?_); rintro e w2 ⟨rfl, hb2⟩; have hb3 := Chain.up hb hb2)
        exact bodyPost_ret (v := .tuple #[S [], .bool false]) (by simp [results, Tryd.results22, go_sem]) rfl ⟨by rw [Hno.out.1, Hno.out.2], hb3.alloc hb3.size _⟩
end Go.Proofs.YtmfabbncoekjhaaDoor
