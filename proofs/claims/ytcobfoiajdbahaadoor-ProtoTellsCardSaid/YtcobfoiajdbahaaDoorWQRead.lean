/- The walk of proto.Read: the call of a request. -/
import Derived.Test.YtcobfoiajdbahaaDoorWQWrite
import Derived.Test.YtcobfoiajdbahaaDoorWQRd
import Derived.Test.YtcobfoiajdbahaaDoorWQBox
import Derived.Test.YtcobfoiajdbahaaDoorPQ
namespace Go.Proofs.YtcobfoiajdbahaaDoor
open Go.RowKit
set_option linter.unusedVariables false
set_option linter.unusedSimpArgs false
set_option maxRecDepth 100000 in
theorem known_any (op : Nat) (h : op < 256) (w : World) :
    Calls Tryd.prog 50 #[.int .u8 (op : Nat)] w fun e w' => e = .returned (.bool (P.knownB op)) ∧ Below w.heap.size w w' := by
  by_cases h1 : 1 ≤ op
  · have Hk := Lib.hid (show P.knownB op = decide ((op : Int) < 16) by unfold P.knownB; rw [decide_eq_decide]; omega)
    have d1 : decide ((1 : Int) ≤ (op : Int)) = true := decide_eq_true (by omega)
    go_enter Tryd.func50, Tryd.ntmps50
    go_wp2_with fail
    all_goals (go_ret; exact ⟨by rw [Hk.out]; first | rfl | (simp; done) | (simp; omega), Below.refl _ _⟩)
  · have Hk := Lib.hid (show P.knownB op = false by unfold P.knownB; exact decide_eq_false (fun h => h1 h.1))
    have hz : op = 0 := by omega
    subst hz
    go_enter Tryd.func50, Tryd.ntmps50
    go_wp2_with fail
    all_goals (go_ret; exact ⟨by rw [Hk.out]; first | rfl | (simp; done), Below.refl _ _⟩)
set_option maxRecDepth 100000 in
set_option maxHeartbeats 16000000 in
theorem read_any (s : List UInt8) (hs : s.length ≤ 1000000) (w : World) (hu : UsesOk w) :
    Calls Tryd.prog 17 #[S s] w fun e w' => e = .returned (.tuple #[caV (P.readC s), .bool (P.readOk s)]) ∧ Below w.heap.size w w' := by
  obtain ⟨hz0, hr0, hA⟩ := two_bx w #[.int .u8 0, .int .u8 0, .int .u64 0, .int .u8 0, .int .u64 0, .int .u64 0, .int .i64 0, .int .u8 0, .int .u64 0, .int .u64 0, .string ⟨#[]⟩, .string ⟨#[]⟩, .int .u64 0, .int .u64 0, .int .i64 0] #[S s, .bool false] 28 108
  have HH := Lib.hid (fun wx (hx : RdX wx (w.heap.size + 1) (s, false)) => head_any (w.heap.size + 1) (s, false) wx (show s.length ≤ 1000000000 by omega) hx)
  have hty := P.headC_ty (P.qH_ty (s, false))
  have hok : P.readOk s = ((!(P.qH (s, false)).2.2 && P.knownB (P.qH (s, false)).1.1) && (!(P.readQ s).2.2 && (decide ((P.readQ s).2.1 = []) && P.rightC (P.readQ s).1))) := rfl
  have hrq : P.readQ s = P.qFs (P.qH (s, false)).1.1 (P.headC (P.qH (s, false)).1, (P.qH (s, false)).2) 7 := rfl
  have hop : (P.qH (s, false)).1.1 < 256 := P.qB_lt _ _ _
  have hs2 := Nat.le_trans (P.qH_le (s, false)) hs
  generalize P.qH (s, false) = hq at *
  obtain ⟨h, s2, bad⟩ := hq
  simp only at HH hok hrq hop hty hs2
  have HK := Lib.hid (fun wx => known_any h.1 hop wx)
  have Hok := Lib.hid hok
  have Hrq := Lib.hid hrq
  clear hok hrq
  go_enter Tryd.func17, Tryd.ntmps17
  go_upto_region 3 with (first
    | (go_at_call 49; (with_reducible refine (HH.out _ hr0).mono ?_); rintro e w2 ⟨rfl, hx2, hb2⟩; have hz2 := hz0.but hb2 (show w.heap.size ≠ w.heap.size + 1 by omega); have hc2 := Bx.fresh w2 28 #[.int .u8 0, .int .u8 0, .int .u64 0, .int .u8 0, .int .u64 0, .int .u64 0, .int .i64 0, .int .u8 0, .int .u64 0, .int .u64 0, .string ⟨#[]⟩, .string ⟨#[]⟩, .int .u64 0, .int .u64 0, .int .i64 0]; have hB2 := (Below.refl w2.heap.size w2).alloc (Nat.le_refl _) (.cells #[.int .u8 0, .int .u8 0, .int .u64 0, .int .u8 0, .int .u64 0, .int .u64 0, .int .i64 0, .int .u8 0, .int .u64 0, .int .u64 0, .string ⟨#[]⟩, .string ⟨#[]⟩, .int .u64 0, .int .u64 0, .int .i64 0] 28); have hx3 := hx2.up hB2; have hz3 := hz2.up hB2; have hbw := (hA.trans (hb2.below (B := w.heap.size) (by omega) (by have := hA.size; omega))).trans (hB2.mono (by have := hz2.lt; omega)); have hlx := hx2.lt; have hlz := hz2.lt)
    | (refine wpList_stB (by rfl) _ _ _ (by rfl) hc2 _ _ (by rfl) (by rfl) 15 15 (by rfl) (by rfl) (by decide) infoCall (by rfl) (by rfl) ?_; intro w4 hz' hb'w4; have hp4 : Bx w4 w2.heap.size 28 #[.int .u8 (h.1 : Nat), .int .u8 (h.2.1 : Nat), V64 h.2.2, .int .u8 0, .int .u64 0, .int .u64 0, .int .i64 0, .int .u8 0, .int .u64 0, .int .u64 0, .string ⟨#[]⟩, .string ⟨#[]⟩, .int .u64 0, .int .u64 0, .int .i64 0] := hz'; clear hz'; skip))
  have hgc : w.heap.size + 1 < w2.heap.size := hlx
  have hx4 : RdX w4 (w.heap.size + 1) (s2, bad) := Bx.but hx3 hb'w4 (by omega)
  have hz4 := hz3.but hb'w4 (by omega)
  have hb4 := hbw.trans (hb'w4.below (B := w.heap.size) (by omega) hbw.size)
  clear hr0 hz0 hA HH hz2 hc2 hB2 hx3 hz3 hbw hlx hlz hb'w4 hx2 hb2
  generalize w2.heap.size = gc at *
  have hne1 : gc ≠ w.heap.size + 1 := by omega
  have hne0 : gc ≠ w.heap.size := by omega
  have hcc : w4.cell? ⟨gc, 0, none⟩ = some (.int .u8 (h.1 : Nat)) := hp4.cell 0
  obtain ⟨y0, y1, _, _⟩ := hx4.two
  have hlc := hz4.lt
  cases bad with
  | true =>
    have Hno := Lib.hid (show P.readOk s = false by rw [Hok.out]; rfl)
    clear HK
    go_wp2_with (refine wpList_stB (by rfl) _ _ _ (by rfl) hz4 _ _ (by rfl) (by rfl) 15 15 (by rfl) (by rfl) (by decide) infoCall (by rfl) (by rfl) ?_; intro w5 hz' hb'w5; have hz5 : Bx w5 w.heap.size 28 #[.int .u8 0, .int .u8 0, .int .u64 0, .int .u8 0, .int .u64 0, .int .u64 0, .int .i64 0, .int .u8 0, .int .u64 0, .int .u64 0, .string ⟨#[]⟩, .string ⟨#[]⟩, .int .u64 0, .int .u64 0, .int .i64 0] := hz'; clear hz'; skip)
    exact bodyPost_ret (results_box2 rfl (by rfl) (loadB hz5 structCall infoCall rfl)) rfl ⟨by have hno := Hno.out; rw [P.readC_no hno, hno]; rfl, hb4.trans (hb'w5.below (Nat.le_refl _) hb4.size)⟩
  | false =>
    cases hk : P.knownB h.1 with
    | false =>
      rw [hk] at HK
      have Hno := Lib.hid (show P.readOk s = false by rw [Hok.out, hk]; rfl)
      clear hk
      go_wp2_with (first
        | (go_at_call 50; (with_reducible refine (HK.out _).mono ?_); rintro e w3 ⟨rfl, hb3⟩; have hz5 := hz4.up hb3; have hb5 := Chain.up hb4 hb3)
        | (refine wpList_stB (by rfl) _ _ _ (by rfl) hz5 _ _ (by rfl) (by rfl) 15 15 (by rfl) (by rfl) (by decide) infoCall (by rfl) (by rfl) ?_; intro w6 hz' hb'w6; have hz6 : Bx w6 w.heap.size 28 #[.int .u8 0, .int .u8 0, .int .u64 0, .int .u8 0, .int .u64 0, .int .u64 0, .int .i64 0, .int .u8 0, .int .u64 0, .int .u64 0, .string ⟨#[]⟩, .string ⟨#[]⟩, .int .u64 0, .int .u64 0, .int .i64 0] := hz'; clear hz'; skip))
      exact bodyPost_ret (results_box2 rfl (by rfl) (loadB hz6 structCall infoCall rfl)) rfl ⟨by have hno := Hno.out; rw [P.readC_no hno, hno]; rfl, hb5.trans (hb'w6.below (Nat.le_refl _) hb5.size)⟩
    | true =>
      rw [hk] at HK
      have hop15 := P.knownB_iff.1 hk
      have Hok2 := Lib.hid (show P.readOk s = (!(P.readQ s).2.2 && (decide ((P.readQ s).2.1 = []) && P.rightC (P.readQ s).1)) by rw [Hok.out, hk]; simp)
      have HS := Lib.hid (P.qFs_all h.1 (P.headC h, (s2, false)) hty.1 hty.2)
      have Hsu := Lib.hid (fun j => P.qFs_succ h.1 (P.headC h, (s2, false)) j)
      have Hand := Lib.hid (fun j (hj : j < 7) => and_use ⟨h.1, by omega⟩ ⟨j, hj⟩)
      have Hop := Lib.hid (fun j => show (P.qFs h.1 (P.headC h, (s2, false)) j).1.op = h.1 by rw [P.qFs_go]; exact (P.qGo_op (op := h.1) j 0 (P.headC h, (s2, false))).1)
      have hq0 : P.qFs h.1 (P.headC h, (s2, false)) 0 = (P.headC h, (s2, false)) := rfl
      have Hrq2 := Lib.hid Hrq.out
      clear Hok Hrq
      generalize P.qFs h.1 (P.headC h, (s2, false)) = F at *
      have hp0 : Bx w4 gc 28 #[.int .u8 ((F 0).1.op : Nat), .int .u8 ((F 0).1.client : Nat), V64 (F 0).1.number, .int .u8 ((F 0).1.p.a.fam : Nat), V64 (F 0).1.p.a.hi, V64 (F 0).1.p.a.lo, .int .i64 (F 0).1.p.bits, .int .u8 ((F 0).1.a.fam : Nat), V64 (F 0).1.a.hi, V64 (F 0).1.a.lo, S (F 0).1.owner, S (F 0).1.to, V64 (F 0).1.d, V64 (F 0).1.fr, .int .i64 (F 0).1.n] := by rw [hq0]; exact hp4
      have hx0 : RdX w4 (w.heap.size + 1) (F 0).2 := by rw [hq0]; exact hx4
      clear hty hk hq0 hp4 hx4
      go_wp2_with (go_at_call 50; (with_reducible refine (HK.out _).mono ?_); rintro e w3 ⟨rfl, hb3⟩; have hz3 := hz4.up hb3; have hb03 := Chain.up hb4 hb3; have hp3 := hp0.up hb3; have hx3 := hx0.up hb3)
      clear HK hz4 hp0 hx0 y0 y1 hcc hlc
      go_loopw [6] (fun f wr => ∃ j : Nat, j ≤ 7 ∧ f = .int .i64 ((2 ^ j : Nat) : Int) ∧ Bx wr gc 28 #[.int .u8 ((F j).1.op : Nat), .int .u8 ((F j).1.client : Nat), V64 (F j).1.number, .int .u8 ((F j).1.p.a.fam : Nat), V64 (F j).1.p.a.hi, V64 (F j).1.p.a.lo, .int .i64 (F j).1.p.bits, .int .u8 ((F j).1.a.fam : Nat), V64 (F j).1.a.hi, V64 (F j).1.a.lo, S (F j).1.owner, S (F j).1.to, V64 (F j).1.d, V64 (F j).1.fr, .int .i64 (F j).1.n] ∧ RdX wr (w.heap.size + 1) (F j).2 ∧ Bx wr w.heap.size 28 #[.int .u8 0, .int .u8 0, .int .u64 0, .int .u8 0, .int .u64 0, .int .u64 0, .int .i64 0, .int .u8 0, .int .u64 0, .int .u64 0, .string ⟨#[]⟩, .string ⟨#[]⟩, .int .u64 0, .int .u64 0, .int .i64 0] ∧ Below w.heap.size w wr) (fun f _ => 129 - (intOf f).toNat)
      case atStart => exact ⟨0, by omega, rfl, hp3, hx3, hz3, hb03⟩
      case round =>
        clear hp3 hx3 hz3 hb03 hb3 hb4
        obtain ⟨j, hj, rfl, hp, hx, hz, hb⟩ := hrel
        obtain ⟨hlen, htyj, hshj⟩ := HS.out j
        have hopj := Hop.out j
        have hsu := Hsu.out j
        have hut := (hu.up hb).2 h.1 (by omega)
        have Hlast := Lib.hid (fun (e : j = 7) => show P.readQ s = F j by rw [e]; exact Hrq2.out)
        generalize F j = st at *
        obtain ⟨c, q⟩ := st
        simp only at hp hx hlen htyj hshj hopj hsu
        have hlq : q.1.length ≤ 1000000000 := Nat.le_trans hlen (Nat.le_trans hs2 (by omega))
        have Hsu2 := Lib.hid hsu
        have hszb := hb.size
        have hle0 : w.heap.size ≤ gc := by omega
        have c0 : wr.cell? ⟨gc, 0, none⟩ = some (.int .u8 (h.1 : Nat)) := by rw [← hopj]; exact hp.cell 0
        clear hsu hlen hopj
        rcases (show j = 0 ∨ j = 1 ∨ j = 2 ∨ j = 3 ∨ j = 4 ∨ j = 5 ∨ j = 6 ∨ j = 7 by omega) with rfl | rfl | rfl | rfl | rfl | rfl | rfl | rfl
        · rw [show ((2 ^ 0 : Nat) : Int) = 1 from rfl]
          clear Hlast
          have hand := Hand.out 0 (by omega)
          cases hus : P.use h.1 0 with
          | true =>
            rw [hus, if_pos rfl, show ((2 ^ 0 : Nat) : Int) = 1 from rfl] at hand
            have Hs2 := Lib.hid (show F (0 + 1) = (let r := P.qX q; let x := r.1; ({ c with p := x }, r.2)) by rw [Hsu2.out]; unfold P.qStep; rw [if_pos hus]; rfl)
            have HC := Lib.hid (fun wx (hr : RdX wx (w.heap.size + 1) q) => show Calls Tryd.prog 51 #[.pointer (some ⟨w.heap.size + 1, 0, none⟩)] wx fun e w' => e = .returned (pxV (P.qX q).1) ∧ RdX w' (w.heap.size + 1) (P.qX q).2 ∧ But (w.heap.size + 1) wx w' from prefix_any (w.heap.size + 1) q wx hlq hr)
            generalize P.qX q = r at *
            obtain ⟨x, q'⟩ := r
            simp only at Hs2 HC
            clear hus Hsu2
            go_wp2_with (first
              | (go_at_call 51; (with_reducible refine (HC.out _ hx).mono ?_); rintro e w3 ⟨rfl, hx3, hb3⟩; have hp3 := hp.but hb3 hne1; have hz3 := hz.but hb3 (show w.heap.size ≠ w.heap.size + 1 by omega))
              | (refine wpList_stB (by rfl) _ _ _ (by rfl) hp3 _ _ (by rfl) (by rfl) 4 15 (by rfl) (by rfl) (by decide) infoPx (by rfl) (by rfl) ?_; intro w4 hz' hb'w4; have hp4 : Bx w4 gc 28 #[.int .u8 (c.op : Nat), .int .u8 (c.client : Nat), V64 c.number, .int .u8 (x.a.fam : Nat), V64 x.a.hi, V64 x.a.lo, .int .i64 x.bits, .int .u8 (c.a.fam : Nat), V64 c.a.hi, V64 c.a.lo, S c.owner, S c.to, V64 c.d, V64 c.fr, .int .i64 c.n] := hz'; clear hz'; have hx4 := Bx.but hx3 hb'w4 (Ne.symm hne1); have hz4 := hz3.but hb'w4 (Ne.symm hne0); skip))
            go_roundw
            case rel => exact ⟨1, by omega, rfl, by rw [Hs2.out]; exact hp4, by rw [Hs2.out]; exact hx4, hz4, (hb.trans (hb3.below (B := w.heap.size) (by omega) hszb)).trans (hb'w4.below hle0 (by have := hb3.size; omega))⟩
            case measure => simp [intOf]
          | false =>
            rw [hus, if_neg (by simp), show ((2 ^ 0 : Nat) : Int) = 1 from rfl] at hand
            have Hs2 := Lib.hid (show F (0 + 1) = (c, q) by rw [Hsu2.out]; unfold P.qStep; rw [if_neg (by rw [hus]; simp)])
            clear hus Hsu2
            go_wp2_with fail
            go_roundw
            case rel => exact ⟨1, by omega, rfl, by rw [Hs2.out]; exact hp, by rw [Hs2.out]; exact hx, hz, hb⟩
            case measure => simp [intOf]
        · rw [show ((2 ^ 1 : Nat) : Int) = 2 from rfl]
          clear Hlast
          have hand := Hand.out 1 (by omega)
          cases hus : P.use h.1 1 with
          | true =>
            rw [hus, if_pos rfl, show ((2 ^ 1 : Nat) : Int) = 2 from rfl] at hand
            have Hs2 := Lib.hid (show F (1 + 1) = (let r := P.qA q; let x := r.1; ({ c with a := x }, r.2)) by rw [Hsu2.out]; unfold P.qStep; rw [if_pos hus]; rfl)
            have HC := Lib.hid (fun wx (hr : RdX wx (w.heap.size + 1) q) => show Calls Tryd.prog 52 #[.pointer (some ⟨w.heap.size + 1, 0, none⟩)] wx fun e w' => e = .returned (adV (P.qA q).1) ∧ RdX w' (w.heap.size + 1) (P.qA q).2 ∧ But (w.heap.size + 1) wx w' from addr_any (w.heap.size + 1) q wx hlq hr)
            generalize P.qA q = r at *
            obtain ⟨x, q'⟩ := r
            simp only at Hs2 HC
            clear hus Hsu2
            go_wp2_with (first
              | (go_at_call 52; (with_reducible refine (HC.out _ hx).mono ?_); rintro e w3 ⟨rfl, hx3, hb3⟩; have hp3 := hp.but hb3 hne1; have hz3 := hz.but hb3 (show w.heap.size ≠ w.heap.size + 1 by omega))
              | (refine wpList_stB (by rfl) _ _ _ (by rfl) hp3 _ _ (by rfl) (by rfl) 3 15 (by rfl) (by rfl) (by decide) infoAd (by rfl) (by rfl) ?_; intro w4 hz' hb'w4; have hp4 : Bx w4 gc 28 #[.int .u8 (c.op : Nat), .int .u8 (c.client : Nat), V64 c.number, .int .u8 (c.p.a.fam : Nat), V64 c.p.a.hi, V64 c.p.a.lo, .int .i64 c.p.bits, .int .u8 (x.fam : Nat), V64 x.hi, V64 x.lo, S c.owner, S c.to, V64 c.d, V64 c.fr, .int .i64 c.n] := hz'; clear hz'; have hx4 := Bx.but hx3 hb'w4 (Ne.symm hne1); have hz4 := hz3.but hb'w4 (Ne.symm hne0); skip))
            go_roundw
            case rel => exact ⟨2, by omega, rfl, by rw [Hs2.out]; exact hp4, by rw [Hs2.out]; exact hx4, hz4, (hb.trans (hb3.below (B := w.heap.size) (by omega) hszb)).trans (hb'w4.below hle0 (by have := hb3.size; omega))⟩
            case measure => simp [intOf]
          | false =>
            rw [hus, if_neg (by simp), show ((2 ^ 1 : Nat) : Int) = 2 from rfl] at hand
            have Hs2 := Lib.hid (show F (1 + 1) = (c, q) by rw [Hsu2.out]; unfold P.qStep; rw [if_neg (by rw [hus]; simp)])
            clear hus Hsu2
            go_wp2_with fail
            go_roundw
            case rel => exact ⟨2, by omega, rfl, by rw [Hs2.out]; exact hp, by rw [Hs2.out]; exact hx, hz, hb⟩
            case measure => simp [intOf]
        · rw [show ((2 ^ 2 : Nat) : Int) = 4 from rfl]
          clear Hlast
          have hand := Hand.out 2 (by omega)
          cases hus : P.use h.1 2 with
          | true =>
            rw [hus, if_pos rfl, show ((2 ^ 2 : Nat) : Int) = 4 from rfl] at hand
            have Hs2 := Lib.hid (show F (2 + 1) = (let r := P.qO q; let x := r.1; ({ c with owner := x }, r.2)) by rw [Hsu2.out]; unfold P.qStep; rw [if_pos hus]; rfl)
            have HC := Lib.hid (fun wx (hr : RdX wx (w.heap.size + 1) q) => show Calls Tryd.prog 53 #[.pointer (some ⟨w.heap.size + 1, 0, none⟩)] wx fun e w' => e = .returned (S (P.qO q).1) ∧ RdX w' (w.heap.size + 1) (P.qO q).2 ∧ But (w.heap.size + 1) wx w' from owner_any (w.heap.size + 1) q wx hlq hr)
            generalize P.qO q = r at *
            obtain ⟨x, q'⟩ := r
            simp only at Hs2 HC
            clear hus Hsu2
            go_wp2_with (first
              | (go_at_call 53; (with_reducible refine (HC.out _ hx).mono ?_); rintro e w3 ⟨rfl, hx3, hb3⟩; have hp3 := hp.but hb3 hne1; have hz3 := hz.but hb3 (show w.heap.size ≠ w.heap.size + 1 by omega))
              | (refine wpList_stV (by rfl) _ _ _ (by rfl) hp3 _ _ (by rfl) (by rfl) (by rfl) (by rfl) 15 (by rfl) (by decide) infoStr (by rfl) ?_; intro w4 hz' hb'w4; have hp4 : Bx w4 gc 28 #[.int .u8 (c.op : Nat), .int .u8 (c.client : Nat), V64 c.number, .int .u8 (c.p.a.fam : Nat), V64 c.p.a.hi, V64 c.p.a.lo, .int .i64 c.p.bits, .int .u8 (c.a.fam : Nat), V64 c.a.hi, V64 c.a.lo, S x, S c.to, V64 c.d, V64 c.fr, .int .i64 c.n] := hz'; clear hz'; have hx4 := Bx.but hx3 hb'w4 (Ne.symm hne1); have hz4 := hz3.but hb'w4 (Ne.symm hne0); skip))
            go_roundw
            case rel => exact ⟨3, by omega, rfl, by rw [Hs2.out]; exact hp4, by rw [Hs2.out]; exact hx4, hz4, (hb.trans (hb3.below (B := w.heap.size) (by omega) hszb)).trans (hb'w4.below hle0 (by have := hb3.size; omega))⟩
            case measure => simp [intOf]
          | false =>
            rw [hus, if_neg (by simp), show ((2 ^ 2 : Nat) : Int) = 4 from rfl] at hand
            have Hs2 := Lib.hid (show F (2 + 1) = (c, q) by rw [Hsu2.out]; unfold P.qStep; rw [if_neg (by rw [hus]; simp)])
            clear hus Hsu2
            go_wp2_with fail
            go_roundw
            case rel => exact ⟨3, by omega, rfl, by rw [Hs2.out]; exact hp, by rw [Hs2.out]; exact hx, hz, hb⟩
            case measure => simp [intOf]
        · rw [show ((2 ^ 3 : Nat) : Int) = 8 from rfl]
          clear Hlast
          have hand := Hand.out 3 (by omega)
          cases hus : P.use h.1 3 with
          | true =>
            rw [hus, if_pos rfl, show ((2 ^ 3 : Nat) : Int) = 8 from rfl] at hand
            have Hs2 := Lib.hid (show F (3 + 1) = (let r := P.qO q; let x := r.1; ({ c with «to» := x }, r.2)) by rw [Hsu2.out]; unfold P.qStep; rw [if_pos hus]; rfl)
            have HC := Lib.hid (fun wx (hr : RdX wx (w.heap.size + 1) q) => show Calls Tryd.prog 53 #[.pointer (some ⟨w.heap.size + 1, 0, none⟩)] wx fun e w' => e = .returned (S (P.qO q).1) ∧ RdX w' (w.heap.size + 1) (P.qO q).2 ∧ But (w.heap.size + 1) wx w' from owner_any (w.heap.size + 1) q wx hlq hr)
            generalize P.qO q = r at *
            obtain ⟨x, q'⟩ := r
            simp only at Hs2 HC
            clear hus Hsu2
            go_wp2_with (first
              | (go_at_call 53; (with_reducible refine (HC.out _ hx).mono ?_); rintro e w3 ⟨rfl, hx3, hb3⟩; have hp3 := hp.but hb3 hne1; have hz3 := hz.but hb3 (show w.heap.size ≠ w.heap.size + 1 by omega))
              | (refine wpList_stV (by rfl) _ _ _ (by rfl) hp3 _ _ (by rfl) (by rfl) (by rfl) (by rfl) 15 (by rfl) (by decide) infoStr (by rfl) ?_; intro w4 hz' hb'w4; have hp4 : Bx w4 gc 28 #[.int .u8 (c.op : Nat), .int .u8 (c.client : Nat), V64 c.number, .int .u8 (c.p.a.fam : Nat), V64 c.p.a.hi, V64 c.p.a.lo, .int .i64 c.p.bits, .int .u8 (c.a.fam : Nat), V64 c.a.hi, V64 c.a.lo, S c.owner, S x, V64 c.d, V64 c.fr, .int .i64 c.n] := hz'; clear hz'; have hx4 := Bx.but hx3 hb'w4 (Ne.symm hne1); have hz4 := hz3.but hb'w4 (Ne.symm hne0); skip))
            go_roundw
            case rel => exact ⟨4, by omega, rfl, by rw [Hs2.out]; exact hp4, by rw [Hs2.out]; exact hx4, hz4, (hb.trans (hb3.below (B := w.heap.size) (by omega) hszb)).trans (hb'w4.below hle0 (by have := hb3.size; omega))⟩
            case measure => simp [intOf]
          | false =>
            rw [hus, if_neg (by simp), show ((2 ^ 3 : Nat) : Int) = 8 from rfl] at hand
            have Hs2 := Lib.hid (show F (3 + 1) = (c, q) by rw [Hsu2.out]; unfold P.qStep; rw [if_neg (by rw [hus]; simp)])
            clear hus Hsu2
            go_wp2_with fail
            go_roundw
            case rel => exact ⟨4, by omega, rfl, by rw [Hs2.out]; exact hp, by rw [Hs2.out]; exact hx, hz, hb⟩
            case measure => simp [intOf]
        · rw [show ((2 ^ 4 : Nat) : Int) = 16 from rfl]
          clear Hlast
          have hand := Hand.out 4 (by omega)
          cases hus : P.use h.1 4 with
          | true =>
            rw [hus, if_pos rfl, show ((2 ^ 4 : Nat) : Int) = 16 from rfl] at hand
            have Hs2 := Lib.hid (show F (4 + 1) = (let r := P.qN q; let x := r.1; ({ c with d := x }, r.2)) by rw [Hsu2.out]; unfold P.qStep; rw [if_pos hus]; rfl)
            have HC := Lib.hid (fun wx (hr : RdX wx (w.heap.size + 1) q) => show Calls Tryd.prog 54 #[.pointer (some ⟨w.heap.size + 1, 0, none⟩)] wx fun e w' => e = .returned (V64 (P.qN q).1) ∧ RdX w' (w.heap.size + 1) (P.qN q).2 ∧ But (w.heap.size + 1) wx w' from number_any (w.heap.size + 1) q wx hlq hr)
            generalize P.qN q = r at *
            obtain ⟨x, q'⟩ := r
            simp only at Hs2 HC
            clear hus Hsu2
            go_wp2_with (first
              | (go_at_call 54; (with_reducible refine (HC.out _ hx).mono ?_); rintro e w3 ⟨rfl, hx3, hb3⟩; have hp3 := hp.but hb3 hne1; have hz3 := hz.but hb3 (show w.heap.size ≠ w.heap.size + 1 by omega))
              | (refine wpList_stV (by rfl) _ _ _ (by rfl) hp3 _ _ (by rfl) (by rfl) (by rfl) (by rfl) 15 (by rfl) (by decide) infoU64 (by rfl) ?_; intro w4 hz' hb'w4; have hp4 : Bx w4 gc 28 #[.int .u8 (c.op : Nat), .int .u8 (c.client : Nat), V64 c.number, .int .u8 (c.p.a.fam : Nat), V64 c.p.a.hi, V64 c.p.a.lo, .int .i64 c.p.bits, .int .u8 (c.a.fam : Nat), V64 c.a.hi, V64 c.a.lo, S c.owner, S c.to, V64 x, V64 c.fr, .int .i64 c.n] := hz'; clear hz'; have hx4 := Bx.but hx3 hb'w4 (Ne.symm hne1); have hz4 := hz3.but hb'w4 (Ne.symm hne0); skip))
            go_roundw
            case rel => exact ⟨5, by omega, rfl, by rw [Hs2.out]; exact hp4, by rw [Hs2.out]; exact hx4, hz4, (hb.trans (hb3.below (B := w.heap.size) (by omega) hszb)).trans (hb'w4.below hle0 (by have := hb3.size; omega))⟩
            case measure => simp [intOf]
          | false =>
            rw [hus, if_neg (by simp), show ((2 ^ 4 : Nat) : Int) = 16 from rfl] at hand
            have Hs2 := Lib.hid (show F (4 + 1) = (c, q) by rw [Hsu2.out]; unfold P.qStep; rw [if_neg (by rw [hus]; simp)])
            clear hus Hsu2
            go_wp2_with fail
            go_roundw
            case rel => exact ⟨5, by omega, rfl, by rw [Hs2.out]; exact hp, by rw [Hs2.out]; exact hx, hz, hb⟩
            case measure => simp [intOf]
        · rw [show ((2 ^ 5 : Nat) : Int) = 32 from rfl]
          clear Hlast
          have hand := Hand.out 5 (by omega)
          cases hus : P.use h.1 5 with
          | true =>
            rw [hus, if_pos rfl, show ((2 ^ 5 : Nat) : Int) = 32 from rfl] at hand
            have Hs2 := Lib.hid (show F (5 + 1) = (let r := P.qN q; let x := r.1; ({ c with fr := x }, r.2)) by rw [Hsu2.out]; unfold P.qStep; rw [if_pos hus]; rfl)
            have HC := Lib.hid (fun wx (hr : RdX wx (w.heap.size + 1) q) => show Calls Tryd.prog 54 #[.pointer (some ⟨w.heap.size + 1, 0, none⟩)] wx fun e w' => e = .returned (V64 (P.qN q).1) ∧ RdX w' (w.heap.size + 1) (P.qN q).2 ∧ But (w.heap.size + 1) wx w' from number_any (w.heap.size + 1) q wx hlq hr)
            generalize P.qN q = r at *
            obtain ⟨x, q'⟩ := r
            simp only at Hs2 HC
            clear hus Hsu2
            go_wp2_with (first
              | (go_at_call 54; (with_reducible refine (HC.out _ hx).mono ?_); rintro e w3 ⟨rfl, hx3, hb3⟩; have hp3 := hp.but hb3 hne1; have hz3 := hz.but hb3 (show w.heap.size ≠ w.heap.size + 1 by omega))
              | (refine wpList_stV (by rfl) _ _ _ (by rfl) hp3 _ _ (by rfl) (by rfl) (by rfl) (by rfl) 15 (by rfl) (by decide) infoU64 (by rfl) ?_; intro w4 hz' hb'w4; have hp4 : Bx w4 gc 28 #[.int .u8 (c.op : Nat), .int .u8 (c.client : Nat), V64 c.number, .int .u8 (c.p.a.fam : Nat), V64 c.p.a.hi, V64 c.p.a.lo, .int .i64 c.p.bits, .int .u8 (c.a.fam : Nat), V64 c.a.hi, V64 c.a.lo, S c.owner, S c.to, V64 c.d, V64 x, .int .i64 c.n] := hz'; clear hz'; have hx4 := Bx.but hx3 hb'w4 (Ne.symm hne1); have hz4 := hz3.but hb'w4 (Ne.symm hne0); skip))
            go_roundw
            case rel => exact ⟨6, by omega, rfl, by rw [Hs2.out]; exact hp4, by rw [Hs2.out]; exact hx4, hz4, (hb.trans (hb3.below (B := w.heap.size) (by omega) hszb)).trans (hb'w4.below hle0 (by have := hb3.size; omega))⟩
            case measure => simp [intOf]
          | false =>
            rw [hus, if_neg (by simp), show ((2 ^ 5 : Nat) : Int) = 32 from rfl] at hand
            have Hs2 := Lib.hid (show F (5 + 1) = (c, q) by rw [Hsu2.out]; unfold P.qStep; rw [if_neg (by rw [hus]; simp)])
            clear hus Hsu2
            go_wp2_with fail
            go_roundw
            case rel => exact ⟨6, by omega, rfl, by rw [Hs2.out]; exact hp, by rw [Hs2.out]; exact hx, hz, hb⟩
            case measure => simp [intOf]
        · rw [show ((2 ^ 6 : Nat) : Int) = 64 from rfl]
          clear Hlast
          have hand := Hand.out 6 (by omega)
          cases hus : P.use h.1 6 with
          | true =>
            rw [hus, if_pos rfl, show ((2 ^ 6 : Nat) : Int) = 64 from rfl] at hand
            have Hs2 := Lib.hid (show F (6 + 1) = (let r := P.qB 1 16 q; let x := r.1; ({ c with n := (x : Int) }, r.2)) by rw [Hsu2.out]; unfold P.qStep; rw [if_pos hus]; rfl)
            have HC := Lib.hid (fun wx (hr : RdX wx (w.heap.size + 1) q) => show Calls Tryd.prog 55 #[.pointer (some ⟨w.heap.size + 1, 0, none⟩), .int .i64 1, .int .i64 16] wx fun e w' => e = .returned (.int .i64 ((P.qB 1 16 q).1 : Nat)) ∧ RdX w' (w.heap.size + 1) (P.qB 1 16 q).2 ∧ But (w.heap.size + 1) wx w' from byte_any (w.heap.size + 1) q 1 16 (by omega) wx hlq hr)
            generalize P.qB 1 16 q = r at *
            obtain ⟨x, q'⟩ := r
            simp only at Hs2 HC
            clear hus Hsu2
            go_wp2_with (first
              | (go_at_call 55; (with_reducible refine (HC.out _ hx).mono ?_); rintro e w3 ⟨rfl, hx3, hb3⟩; have hp3 := hp.but hb3 hne1; have hz3 := hz.but hb3 (show w.heap.size ≠ w.heap.size + 1 by omega))
              | (refine wpList_stV (by rfl) _ _ _ (by rfl) hp3 _ _ (by rfl) (by rfl) (by rfl) (by rfl) 15 (by rfl) (by decide) infoInt (by rfl) ?_; intro w4 hz' hb'w4; have hp4 : Bx w4 gc 28 #[.int .u8 (c.op : Nat), .int .u8 (c.client : Nat), V64 c.number, .int .u8 (c.p.a.fam : Nat), V64 c.p.a.hi, V64 c.p.a.lo, .int .i64 c.p.bits, .int .u8 (c.a.fam : Nat), V64 c.a.hi, V64 c.a.lo, S c.owner, S c.to, V64 c.d, V64 c.fr, .int .i64 (x : Nat)] := hz'; clear hz'; have hx4 := Bx.but hx3 hb'w4 (Ne.symm hne1); have hz4 := hz3.but hb'w4 (Ne.symm hne0); skip))
            go_roundw
            case rel => exact ⟨7, by omega, rfl, by rw [Hs2.out]; exact hp4, by rw [Hs2.out]; exact hx4, hz4, (hb.trans (hb3.below (B := w.heap.size) (by omega) hszb)).trans (hb'w4.below hle0 (by have := hb3.size; omega))⟩
            case measure => simp [intOf]
          | false =>
            rw [hus, if_neg (by simp), show ((2 ^ 6 : Nat) : Int) = 64 from rfl] at hand
            have Hs2 := Lib.hid (show F (6 + 1) = (c, q) by rw [Hsu2.out]; unfold P.qStep; rw [if_neg (by rw [hus]; simp)])
            clear hus Hsu2
            go_wp2_with fail
            go_roundw
            case rel => exact ⟨7, by omega, rfl, by rw [Hs2.out]; exact hp, by rw [Hs2.out]; exact hx, hz, hb⟩
            case measure => simp [intOf]
        · rw [show ((2 ^ 7 : Nat) : Int) = 128 from rfl]
          have hlast := Hlast.out rfl
          have hokl := Hok2.out
          rw [hlast] at hokl
          have hrc : P.readOk s = true → P.readC s = c := fun h => by unfold P.readC; rw [if_pos h, hlast]
          clear Hlast Hsu2 hlast Hand HS Hsu Hop Hok2 Hrq2 c0 hut
          obtain ⟨s3, bad⟩ := q
          simp only at hokl hlq
          obtain ⟨y0, y1, _, _⟩ := hx.two
          cases bad with
          | true =>
            have Hno := Lib.hid (show P.readOk s = false from hokl.trans rfl)
            clear hokl hrc
            go_wp2_with (refine wpList_stB (by rfl) _ _ _ (by rfl) hz _ _ (by rfl) (by rfl) 15 15 (by rfl) (by rfl) (by decide) infoCall (by rfl) (by rfl) ?_; intro w5 hz' hb'w5; have hz5 : Bx w5 w.heap.size 28 #[.int .u8 0, .int .u8 0, .int .u64 0, .int .u8 0, .int .u64 0, .int .u64 0, .int .i64 0, .int .u8 0, .int .u64 0, .int .u64 0, .string ⟨#[]⟩, .string ⟨#[]⟩, .int .u64 0, .int .u64 0, .int .i64 0] := hz'; clear hz'; skip)
            exact bodyPost_ret (results_box2 rfl (by rfl) (loadB hz5 structCall infoCall rfl)) rfl ⟨by have hno := Hno.out; rw [P.readC_no hno, hno]; rfl, hb.trans (hb'w5.below (Nat.le_refl _) hb.size)⟩
          | false =>
            cases s3 with
            | cons x3 t3 =>
              have Hno := Lib.hid (show P.readOk s = false from hokl.trans rfl)
              generalize hT : x3 :: t3 = T at *
              have hT2 : T.isEmpty = false := by rw [← hT]; rfl
              have hT3 : ¬ T = [] := by rw [← hT]; simp
              clear hT hokl hrc
              go_wp2_with (refine wpList_stB (by rfl) _ _ _ (by rfl) hz _ _ (by rfl) (by rfl) 15 15 (by rfl) (by rfl) (by decide) infoCall (by rfl) (by rfl) ?_; intro w5 hz' hb'w5; have hz5 : Bx w5 w.heap.size 28 #[.int .u8 0, .int .u8 0, .int .u64 0, .int .u8 0, .int .u64 0, .int .u64 0, .int .i64 0, .int .u8 0, .int .u64 0, .int .u64 0, .string ⟨#[]⟩, .string ⟨#[]⟩, .int .u64 0, .int .u64 0, .int .i64 0] := hz'; clear hz'; skip)
              exact bodyPost_ret (results_box2 rfl (by rfl) (loadB hz5 structCall infoCall rfl)) rfl ⟨by have hno := Hno.out; rw [P.readC_no hno, hno]; rfl, hb.trans (hb'w5.below (Nat.le_refl _) hb.size)⟩
            | nil =>
              have HR := Lib.hid (fun wx => right_any c htyj (by have := hshj.1; omega) (by have := hshj.2; omega) wx)
              have hokm : P.readOk s = P.rightC c := hokl.trans (by simp)
              clear hokl
              cases hr : P.rightC c with
              | false =>
                rw [hr] at HR hokm
                have Hno := Lib.hid hokm
                clear hr hrc hokm
                obtain ⟨⟨c0, c1, c2, c3, c4, c5, c6, c7, c8, c9, c10, c11, c12, c13, c14⟩, -⟩ := hp.cells15
                go_wp2_with (first
                  | (go_at_call 27; (with_reducible refine (HR.out _).mono ?_); rintro e w4 ⟨rfl, hb4⟩; have hz4 := hz.up hb4; have hb4' := Chain.up hb hb4)
                  | (refine wpList_stB (by rfl) _ _ _ (by rfl) hz4 _ _ (by rfl) (by rfl) 15 15 (by rfl) (by rfl) (by decide) infoCall (by rfl) (by rfl) ?_; intro w5 hz' hb'w5; have hz5 : Bx w5 w.heap.size 28 #[.int .u8 0, .int .u8 0, .int .u64 0, .int .u8 0, .int .u64 0, .int .u64 0, .int .i64 0, .int .u8 0, .int .u64 0, .int .u64 0, .string ⟨#[]⟩, .string ⟨#[]⟩, .int .u64 0, .int .u64 0, .int .i64 0] := hz'; clear hz'; skip))
                exact bodyPost_ret (results_box2 rfl (by rfl) (loadB hz5 structCall infoCall rfl)) rfl ⟨by have hno := Hno.out; rw [P.readC_no hno, hno]; rfl, hb4'.trans (hb'w5.below (Nat.le_refl _) hb4'.size)⟩
              | true =>
                rw [hr] at HR hokm
                have Hyes := Lib.hid hokm
                have Hrc := Lib.hid (hrc hokm)
                clear hr hrc hokm
                obtain ⟨⟨c0, c1, c2, c3, c4, c5, c6, c7, c8, c9, c10, c11, c12, c13, c14⟩, -⟩ := hp.cells15
                go_wp2_with (first
                  | (go_at_call 27; (with_reducible refine (HR.out _).mono ?_); rintro e w4 ⟨rfl, hb4⟩; have hz4 := hz.up hb4; have hp4 := hp.up hb4; have hb4' := Chain.up hb hb4)
                  | (refine wpList_ldB (by rfl) _ _ (by rfl) hp4 (by rfl) structCall 15 infoCall (by rfl) ?_)
                  | (refine wpList_stB (by rfl) _ _ _ (by rfl) hz4 _ _ (by rfl) (by rfl) 15 15 (by rfl) (by rfl) (by decide) infoCall (by rfl) (by rfl) ?_; intro w5 hz' hb'w5; have hz5 : Bx w5 w.heap.size 28 #[.int .u8 (c.op : Nat), .int .u8 (c.client : Nat), V64 c.number, .int .u8 (c.p.a.fam : Nat), V64 c.p.a.hi, V64 c.p.a.lo, .int .i64 c.p.bits, .int .u8 (c.a.fam : Nat), V64 c.a.hi, V64 c.a.lo, S c.owner, S c.to, V64 c.d, V64 c.fr, .int .i64 c.n] := hz'; clear hz'; skip))
                exact bodyPost_ret (results_box2 rfl (by rfl) (loadB hz5 structCall infoCall rfl)) rfl ⟨by rw [Hrc.out, Hyes.out]; rfl, hb4'.trans (hb'w5.below (Nat.le_refl _) hb4'.size)⟩
end Go.Proofs.YtcobfoiajdbahaaDoor
