/- The walk of what the document tells of a look. -/
import Derived.Test.YtcobfoiajdbahaaDoorWQMay26L
namespace Go.Proofs.YtcobfoiajdbahaaDoor
open Go.RowKit
set_option linter.unusedVariables false
set_option linter.unusedSimpArgs false
theorem cat_nil (s : List UInt8) : (ByteArray.mk #[] ++ ByteArray.mk s.toArray) = ByteArray.mk s.toArray := str_catD [] s
theorem nil_cat (s : List UInt8) : (ByteArray.mk s.toArray ++ ByteArray.mk #[]) = ByteArray.mk s.toArray := by
  have h := str_catD s []
  rw [List.append_nil] at h
  exact h
theorem one_nat (n : Nat) (hn : n < 256) (w : World) : Calls Tryd.prog 48 #[.int .i64 (n : Nat)] w fun e w' => e = .returned (S [P.byt n]) ∧ Below w.heap.size w w' := by
  have h := refOne_any (n : Int) w
  rw [P.byI_nat n hn] at h
  exact h
theorem lease0_any (o : List UInt8) (t : Nat) (ho : o.length ≤ 20000) (ht : t < 18446744073709551616) (w : World) : Calls Tryd.prog 65 #[.agg #[.int .u8 0, .int .u64 0, .int .u64 0, S o, V64 t]] w fun e w' => e = .returned (S (P.leB o t)) ∧ Below w.heap.size w w' := refLease_any P.noA o t ho ht w
theorem P.leB_le2 (o : List UInt8) (t : Nat) (ho : o.length ≤ 20000) : (P.leB o t).length ≤ 20018 := by
  have h := P.leB_two o t ho
  unfold P.leB
  rw [List.length_append]
  omega
set_option maxRecDepth 100000 in
set_option maxHeartbeats 4000000 in
theorem refLook_any (a : P.An) (r : Option Addr) (rc : Nat) (v : Option Addr) (vc : Nat) (p : Option Addr) (pc : Nat) (ht : P.tyAn a) (ho : a.owner.length ≤ 20000) (w : World) : Calls Tryd.prog 66 #[raV a r rc v vc p pc] w fun e w' => e = .returned (S (P.lkB a)) ∧ Below w.heap.size w w' := by
  have h1 := Bx.fresh w 62 #[.int .u8 (a.a.fam : Nat), V64 a.a.hi, V64 a.a.lo, .int .u8 0, .int .u64 0, .int .u64 0, S a.owner, V64 a.til, .int .u8 (a.pool.a.fam : Nat), V64 a.pool.a.hi, V64 a.pool.a.lo, .int .i64 a.pool.bits, .bool a.has, .bool a.held, .bool a.live, V64 a.clock, .slice r a.rows.length rc, .slice v a.events.length vc, .slice p a.pools.length pc]
  have hA := (Below.refl w.heap.size w).alloc (Nat.le_refl _) (.cells #[.int .u8 (a.a.fam : Nat), V64 a.a.hi, V64 a.a.lo, .int .u8 0, .int .u64 0, .int .u64 0, S a.owner, V64 a.til, .int .u8 (a.pool.a.fam : Nat), V64 a.pool.a.hi, V64 a.pool.a.lo, .int .i64 a.pool.bits, .bool a.has, .bool a.held, .bool a.live, V64 a.clock, .slice r a.rows.length rc, .slice v a.events.length vc, .slice p a.pools.length pc] 62)
  have HX := Lib.hid (fun wx => refPrefix_any a.pool ht.2.2.1 wx)
  have HY := Lib.hid (fun wx => lease0_any a.owner a.til ho ht.2.1 wx)
  have lX := P.pxX_le a.pool
  have lY := P.leB_le2 a.owner a.til ho
  have HO := Lib.hid (fun n (hn : n < 8) wx => one_nat n (by omega) wx)
  have Hres := Lib.hid (show P.lkB a = P.byt ((if a.has then 1 else 0) + ((if a.held then 2 else 0) + (if a.live then 4 else 0))) :: ((if a.has then P.pxX a.pool else []) ++ (if a.live then P.leB a.owner a.til else [])) from rfl)
  generalize P.lkB a = res at *
  generalize P.pxX a.pool = X at *
  generalize P.leB a.owner a.til = Y at *
  show Calls Tryd.prog 66 #[.agg #[.int .u8 (a.a.fam : Nat), V64 a.a.hi, V64 a.a.lo, .int .u8 0, .int .u64 0, .int .u64 0, S a.owner, V64 a.til, .int .u8 (a.pool.a.fam : Nat), V64 a.pool.a.hi, V64 a.pool.a.lo, .int .i64 a.pool.bits, .bool a.has, .bool a.held, .bool a.live, V64 a.clock, .slice r a.rows.length rc, .slice v a.events.length vc, .slice p a.pools.length pc]] w fun e w' => e = .returned (S res) ∧ Below w.heap.size w w'
  generalize a.has = bh at *
  generalize a.held = bd at *
  generalize a.live = bl at *
  obtain ⟨c0, c1, c2, c3, c4, c5, c6, c7, c8, c9, c10, c11, c12, c13, c14, c15, c16, c17, c18⟩ := h1.cells19
  rcases bh with _ | _ <;> rcases bd with _ | _ <;> rcases bl with _ | _
  · have Hf := Lib.hid (show res = P.byt 0 :: ([] : List UInt8) by rw [Hres.out]; simp)
    have HN := Lib.hid (fun wx => show Calls Tryd.prog 48 #[.int .i64 0] wx fun e w' => e = .returned (S [P.byt 0]) ∧ Below wx.heap.size wx w' from HO.out 0 (by omega) wx)
    have kX := cat_nil X
    have kY := cat_nil Y
    have kXY := str_catD X Y
    have kO := str_catD [P.byt 0] ([] : List UInt8)
    have kn := nil_cat [P.byt 0]
    have lO : [P.byt 0].length = 1 := rfl
    have a1 : ¬ 9223372036854775807 < X.length + Y.length := by omega
    have a2 : ¬ 9223372036854775807 < [P.byt 0].length + ([] : List UInt8).length := by first | (simp; done) | (simp; omega)
    rw [← List.singleton_append] at Hf
    generalize [P.byt 0] = O at *
    clear Hres HO
    go_enter Tryd.func66, Tryd.ntmps66
    go_wp2_with (go_at_call 48; (with_reducible refine (HN.out _).mono ?_); rintro e w2 ⟨rfl, hb2⟩; have hA2 := Chain.up hA hb2)
    go_ret
    exact ⟨by rw [Hf.out]; first | rfl | (simp [kX, kY, kXY, kO, kn]; done) | (simp only [kX, kY, kXY, kO, kn]; rfl), hA2⟩
  · have Hf := Lib.hid (show res = P.byt 4 :: Y by rw [Hres.out]; simp)
    have HN := Lib.hid (fun wx => show Calls Tryd.prog 48 #[.int .i64 4] wx fun e w' => e = .returned (S [P.byt 4]) ∧ Below wx.heap.size wx w' from HO.out 4 (by omega) wx)
    have kX := cat_nil X
    have kY := cat_nil Y
    have kXY := str_catD X Y
    have kO := str_catD [P.byt 4] Y
    have kn := nil_cat [P.byt 4]
    have lO : [P.byt 4].length = 1 := rfl
    have a1 : ¬ 9223372036854775807 < X.length + Y.length := by omega
    have a2 : ¬ 9223372036854775807 < [P.byt 4].length + Y.length := by first | (simp; done) | (simp; omega)
    rw [← List.singleton_append] at Hf
    generalize [P.byt 4] = O at *
    clear Hres HO
    go_enter Tryd.func66, Tryd.ntmps66
    go_wp2_with (first
      | (go_at_call 65; (with_reducible refine (HY.out _).mono ?_); rintro e w2 ⟨rfl, hb2⟩; have hA2 := Chain.up hA hb2; have h2 := h1.up hb2)
      | (go_at_call 48; (with_reducible refine (HN.out _).mono ?_); rintro e w3 ⟨rfl, hb3⟩; have hA3 := Chain.up hA2 hb3))
    go_ret
    exact ⟨by rw [Hf.out]; first | rfl | (simp [kX, kY, kXY, kO, kn]; done) | (simp only [kX, kY, kXY, kO, kn]; rfl), hA3⟩
  · have Hf := Lib.hid (show res = P.byt 2 :: ([] : List UInt8) by rw [Hres.out]; simp)
    have HN := Lib.hid (fun wx => show Calls Tryd.prog 48 #[.int .i64 2] wx fun e w' => e = .returned (S [P.byt 2]) ∧ Below wx.heap.size wx w' from HO.out 2 (by omega) wx)
    have kX := cat_nil X
    have kY := cat_nil Y
    have kXY := str_catD X Y
    have kO := str_catD [P.byt 2] ([] : List UInt8)
    have kn := nil_cat [P.byt 2]
    have lO : [P.byt 2].length = 1 := rfl
    have a1 : ¬ 9223372036854775807 < X.length + Y.length := by omega
    have a2 : ¬ 9223372036854775807 < [P.byt 2].length + ([] : List UInt8).length := by first | (simp; done) | (simp; omega)
    rw [← List.singleton_append] at Hf
    generalize [P.byt 2] = O at *
    clear Hres HO
    go_enter Tryd.func66, Tryd.ntmps66
    go_wp2_with (go_at_call 48; (with_reducible refine (HN.out _).mono ?_); rintro e w2 ⟨rfl, hb2⟩; have hA2 := Chain.up hA hb2)
    go_ret
    exact ⟨by rw [Hf.out]; first | rfl | (simp [kX, kY, kXY, kO, kn]; done) | (simp only [kX, kY, kXY, kO, kn]; rfl), hA2⟩
  · have Hf := Lib.hid (show res = P.byt 6 :: Y by rw [Hres.out]; simp)
    have HN := Lib.hid (fun wx => show Calls Tryd.prog 48 #[.int .i64 6] wx fun e w' => e = .returned (S [P.byt 6]) ∧ Below wx.heap.size wx w' from HO.out 6 (by omega) wx)
    have kX := cat_nil X
    have kY := cat_nil Y
    have kXY := str_catD X Y
    have kO := str_catD [P.byt 6] Y
    have kn := nil_cat [P.byt 6]
    have lO : [P.byt 6].length = 1 := rfl
    have a1 : ¬ 9223372036854775807 < X.length + Y.length := by omega
    have a2 : ¬ 9223372036854775807 < [P.byt 6].length + Y.length := by first | (simp; done) | (simp; omega)
    rw [← List.singleton_append] at Hf
    generalize [P.byt 6] = O at *
    clear Hres HO
    go_enter Tryd.func66, Tryd.ntmps66
    go_wp2_with (first
      | (go_at_call 65; (with_reducible refine (HY.out _).mono ?_); rintro e w2 ⟨rfl, hb2⟩; have hA2 := Chain.up hA hb2; have h2 := h1.up hb2)
      | (go_at_call 48; (with_reducible refine (HN.out _).mono ?_); rintro e w3 ⟨rfl, hb3⟩; have hA3 := Chain.up hA2 hb3))
    go_ret
    exact ⟨by rw [Hf.out]; first | rfl | (simp [kX, kY, kXY, kO, kn]; done) | (simp only [kX, kY, kXY, kO, kn]; rfl), hA3⟩
  · have Hf := Lib.hid (show res = P.byt 1 :: X by rw [Hres.out]; simp)
    have HN := Lib.hid (fun wx => show Calls Tryd.prog 48 #[.int .i64 1] wx fun e w' => e = .returned (S [P.byt 1]) ∧ Below wx.heap.size wx w' from HO.out 1 (by omega) wx)
    have kX := cat_nil X
    have kY := cat_nil Y
    have kXY := str_catD X Y
    have kO := str_catD [P.byt 1] X
    have kn := nil_cat [P.byt 1]
    have lO : [P.byt 1].length = 1 := rfl
    have a1 : ¬ 9223372036854775807 < X.length + Y.length := by omega
    have a2 : ¬ 9223372036854775807 < [P.byt 1].length + X.length := by first | (simp; done) | (simp; omega)
    rw [← List.singleton_append] at Hf
    generalize [P.byt 1] = O at *
    clear Hres HO
    go_enter Tryd.func66, Tryd.ntmps66
    go_wp2_with (first
      | (go_at_call 44; (with_reducible refine (HX.out _).mono ?_); rintro e w2 ⟨rfl, hb2⟩; have hA2 := Chain.up hA hb2; have h2 := h1.up hb2; obtain ⟨d0, d1, d2, d3, d4, d5, d6, d7, d8, d9, d10, d11, d12, d13, d14, d15, d16, d17, d18⟩ := h2.cells19)
      | (go_at_call 48; (with_reducible refine (HN.out _).mono ?_); rintro e w3 ⟨rfl, hb3⟩; have hA3 := Chain.up hA2 hb3))
    go_ret
    exact ⟨by rw [Hf.out]; first | rfl | (simp [kX, kY, kXY, kO, kn]; done) | (simp only [kX, kY, kXY, kO, kn]; rfl), hA3⟩
  · have Hf := Lib.hid (show res = P.byt 5 :: (X ++ Y) by rw [Hres.out]; simp)
    have HN := Lib.hid (fun wx => show Calls Tryd.prog 48 #[.int .i64 5] wx fun e w' => e = .returned (S [P.byt 5]) ∧ Below wx.heap.size wx w' from HO.out 5 (by omega) wx)
    have kX := cat_nil X
    have kY := cat_nil Y
    have kXY := str_catD X Y
    have kO := str_catD [P.byt 5] (X ++ Y)
    have kn := nil_cat [P.byt 5]
    have lO : [P.byt 5].length = 1 := rfl
    have a1 : ¬ 9223372036854775807 < X.length + Y.length := by omega
    have a2 : ¬ 9223372036854775807 < [P.byt 5].length + (X ++ Y).length := by first | (simp; done) | (simp; omega)
    rw [← List.singleton_append] at Hf
    generalize [P.byt 5] = O at *
    clear Hres HO
    go_enter Tryd.func66, Tryd.ntmps66
    go_wp2_with (first
      | (go_at_call 44; (with_reducible refine (HX.out _).mono ?_); rintro e w2 ⟨rfl, hb2⟩; have hA2 := Chain.up hA hb2; have h2 := h1.up hb2; obtain ⟨d0, d1, d2, d3, d4, d5, d6, d7, d8, d9, d10, d11, d12, d13, d14, d15, d16, d17, d18⟩ := h2.cells19)
      | (go_at_call 65; (with_reducible refine (HY.out _).mono ?_); rintro e w3 ⟨rfl, hb3⟩; have hA3 := Chain.up hA2 hb3; have h3 := h2.up hb3)
      | (go_at_call 48; (with_reducible refine (HN.out _).mono ?_); rintro e w4 ⟨rfl, hb4⟩; have hA4 := Chain.up hA3 hb4))
    go_ret
    exact ⟨by rw [Hf.out]; first | rfl | (simp [kX, kY, kXY, kO, kn]; done) | (simp only [kX, kY, kXY, kO, kn]; rfl), hA4⟩
  · have Hf := Lib.hid (show res = P.byt 3 :: X by rw [Hres.out]; simp)
    have HN := Lib.hid (fun wx => show Calls Tryd.prog 48 #[.int .i64 3] wx fun e w' => e = .returned (S [P.byt 3]) ∧ Below wx.heap.size wx w' from HO.out 3 (by omega) wx)
    have kX := cat_nil X
    have kY := cat_nil Y
    have kXY := str_catD X Y
    have kO := str_catD [P.byt 3] X
    have kn := nil_cat [P.byt 3]
    have lO : [P.byt 3].length = 1 := rfl
    have a1 : ¬ 9223372036854775807 < X.length + Y.length := by omega
    have a2 : ¬ 9223372036854775807 < [P.byt 3].length + X.length := by first | (simp; done) | (simp; omega)
    rw [← List.singleton_append] at Hf
    generalize [P.byt 3] = O at *
    clear Hres HO
    go_enter Tryd.func66, Tryd.ntmps66
    go_wp2_with (first
      | (go_at_call 44; (with_reducible refine (HX.out _).mono ?_); rintro e w2 ⟨rfl, hb2⟩; have hA2 := Chain.up hA hb2; have h2 := h1.up hb2; obtain ⟨d0, d1, d2, d3, d4, d5, d6, d7, d8, d9, d10, d11, d12, d13, d14, d15, d16, d17, d18⟩ := h2.cells19)
      | (go_at_call 48; (with_reducible refine (HN.out _).mono ?_); rintro e w3 ⟨rfl, hb3⟩; have hA3 := Chain.up hA2 hb3))
    go_ret
    exact ⟨by rw [Hf.out]; first | rfl | (simp [kX, kY, kXY, kO, kn]; done) | (simp only [kX, kY, kXY, kO, kn]; rfl), hA3⟩
  · have Hf := Lib.hid (show res = P.byt 7 :: (X ++ Y) by rw [Hres.out]; simp)
    have HN := Lib.hid (fun wx => show Calls Tryd.prog 48 #[.int .i64 7] wx fun e w' => e = .returned (S [P.byt 7]) ∧ Below wx.heap.size wx w' from HO.out 7 (by omega) wx)
    have kX := cat_nil X
    have kY := cat_nil Y
    have kXY := str_catD X Y
    have kO := str_catD [P.byt 7] (X ++ Y)
    have kn := nil_cat [P.byt 7]
    have lO : [P.byt 7].length = 1 := rfl
    have a1 : ¬ 9223372036854775807 < X.length + Y.length := by omega
    have a2 : ¬ 9223372036854775807 < [P.byt 7].length + (X ++ Y).length := by first | (simp; done) | (simp; omega)
    rw [← List.singleton_append] at Hf
    generalize [P.byt 7] = O at *
    clear Hres HO
    go_enter Tryd.func66, Tryd.ntmps66
    go_wp2_with (first
      | (go_at_call 44; (with_reducible refine (HX.out _).mono ?_); rintro e w2 ⟨rfl, hb2⟩; have hA2 := Chain.up hA hb2; have h2 := h1.up hb2; obtain ⟨d0, d1, d2, d3, d4, d5, d6, d7, d8, d9, d10, d11, d12, d13, d14, d15, d16, d17, d18⟩ := h2.cells19)
      | (go_at_call 65; (with_reducible refine (HY.out _).mono ?_); rintro e w3 ⟨rfl, hb3⟩; have hA3 := Chain.up hA2 hb3; have h3 := h2.up hb3)
      | (go_at_call 48; (with_reducible refine (HN.out _).mono ?_); rintro e w4 ⟨rfl, hb4⟩; have hA4 := Chain.up hA3 hb4))
    go_ret
    exact ⟨by rw [Hf.out]; first | rfl | (simp [kX, kY, kXY, kO, kn]; done) | (simp only [kX, kY, kXY, kO, kn]; rfl), hA4⟩
end Go.Proofs.YtcobfoiajdbahaaDoor
