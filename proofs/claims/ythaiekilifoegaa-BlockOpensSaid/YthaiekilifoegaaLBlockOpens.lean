/- The walk of BlockOpens: it answers true. -/
import Derived.Test.YthaiekilifoegaaWLawK
namespace Go.Proofs.Ythaiekilifoegaa
open Go.RowKit
set_option linter.unusedVariables false
set_option linter.unusedSimpArgs false

attribute [local go_sem] str_take

set_option maxRecDepth 100000 in
set_option maxHeartbeats 8000000 in
theorem law_opens (s k : List UInt8) (W : World) (hs : s.length ≤ 9223372036854775807) (hk : k.length ≤ 9223372036854775807) :
    Calls Try.prog 5 #[S s, S k] W fun e w' => e = .returned (.bool true) ∧ Below W.heap.size W w' := by
  have main : ∀ s1 k1 : List UInt8, s1.length ≤ 8000 → k1.length ≤ 2000 → ((s1 = s.take 8000 ∧ 8000 < s.length) ∨ (s1 = s ∧ s.length ≤ 8000)) → ((k1 = k.take 2000 ∧ 2000 < k.length) ∨ (k1 = k ∧ k.length ≤ 2000)) → Calls Try.prog 5 #[S s, S k] W fun e w' => e = .returned (.bool true) ∧ Below W.heap.size W w' := by
    intro s1 k1 h1 h2 h3 h4
    by_cases hex : ∃ l, P.Opens s1 l
    · obtain ⟨l, ho⟩ := hex
      have hln := ho.len
      have hup := ho.up
      have HO := Lib.hid (fun wx => open_yes ho (by omega) wx)
      have HR := Lib.hid (fun wx => ropen_y ho (by omega) wx)
      have HSm := Lib.hid (fun wx g a c (hb : BlkAt wx g l) (he : EnsAt wx a l) => same_any hb ho.1 (by omega) a l.length c rfl he)
      have HSk := Lib.hid (fun wx g (hb : BlkAt wx g l) => seek_any hb ho.1 (by omega) k1)
      have HRk := Lib.hid (fun wx a c (he : EnsAt wx a l) => refSeek_any l a l.length c rfl k1 wx he (by omega))
      clear ho hln hup
      generalize P.seekL l k1 = sk at *
      rcases h3 with ⟨h3, h3l⟩ | ⟨rfl, h3l⟩ <;> rcases h4 with ⟨h4, h4l⟩ | ⟨rfl, h4l⟩
      · go_enter Try.func5, Try.ntmps5
        go_wp2_with (first
        | (go_at_call 13; (try rw [← h3]); (with_reducible refine (HO.out _).mono ?_); rintro e w1 ⟨⟨g, rfl, hk1⟩, hb1⟩)
        | (go_at_call 21; (try rw [← h3]); (with_reducible refine (HR.out _).mono ?_); rintro e w2 ⟨⟨a, c, rfl, he2⟩, hb2⟩; have hk2 := hk1.up hb2)
        | (go_at_call 22; (with_reducible refine (HSm.out _ _ _ _ hk2 he2).mono ?_); rintro e w3 ⟨rfl, hb3⟩; have hk3 := hk2.up hb3; have he3 := he2.up hb3)
        | (go_at_call 16; (try rw [← h4]); (with_reducible refine (HSk.out _ _ hk3).mono ?_); rintro e w4 ⟨rfl, hb4⟩; have he4 := he3.up hb4)
        | (go_at_call 23; (try rw [← h4]); (with_reducible refine (HRk.out _ _ _ he4).mono ?_); rintro e w5 ⟨rfl, hb5⟩)
        | (go_at_call 17; (with_reducible refine (awake_any _).mono ?_); rintro e w9 ⟨rfl, hb9⟩))
        go_ret
        exact ⟨rfl, Chain.up (Chain.up (Chain.up (Chain.up (Chain.up hb1 hb2) hb3) hb4) hb5) hb9⟩
      · go_enter Try.func5, Try.ntmps5
        go_wp2_with (first
        | (go_at_call 13; (try rw [← h3]); (with_reducible refine (HO.out _).mono ?_); rintro e w1 ⟨⟨g, rfl, hk1⟩, hb1⟩)
        | (go_at_call 21; (try rw [← h3]); (with_reducible refine (HR.out _).mono ?_); rintro e w2 ⟨⟨a, c, rfl, he2⟩, hb2⟩; have hk2 := hk1.up hb2)
        | (go_at_call 22; (with_reducible refine (HSm.out _ _ _ _ hk2 he2).mono ?_); rintro e w3 ⟨rfl, hb3⟩; have hk3 := hk2.up hb3; have he3 := he2.up hb3)
        | (go_at_call 16; (with_reducible refine (HSk.out _ _ hk3).mono ?_); rintro e w4 ⟨rfl, hb4⟩; have he4 := he3.up hb4)
        | (go_at_call 23; (with_reducible refine (HRk.out _ _ _ he4).mono ?_); rintro e w5 ⟨rfl, hb5⟩)
        | (go_at_call 17; (with_reducible refine (awake_any _).mono ?_); rintro e w9 ⟨rfl, hb9⟩))
        go_ret
        exact ⟨rfl, Chain.up (Chain.up (Chain.up (Chain.up (Chain.up hb1 hb2) hb3) hb4) hb5) hb9⟩
      · go_enter Try.func5, Try.ntmps5
        go_wp2_with (first
        | (go_at_call 13; (with_reducible refine (HO.out _).mono ?_); rintro e w1 ⟨⟨g, rfl, hk1⟩, hb1⟩)
        | (go_at_call 21; (with_reducible refine (HR.out _).mono ?_); rintro e w2 ⟨⟨a, c, rfl, he2⟩, hb2⟩; have hk2 := hk1.up hb2)
        | (go_at_call 22; (with_reducible refine (HSm.out _ _ _ _ hk2 he2).mono ?_); rintro e w3 ⟨rfl, hb3⟩; have hk3 := hk2.up hb3; have he3 := he2.up hb3)
        | (go_at_call 16; (try rw [← h4]); (with_reducible refine (HSk.out _ _ hk3).mono ?_); rintro e w4 ⟨rfl, hb4⟩; have he4 := he3.up hb4)
        | (go_at_call 23; (try rw [← h4]); (with_reducible refine (HRk.out _ _ _ he4).mono ?_); rintro e w5 ⟨rfl, hb5⟩)
        | (go_at_call 17; (with_reducible refine (awake_any _).mono ?_); rintro e w9 ⟨rfl, hb9⟩))
        go_ret
        exact ⟨rfl, Chain.up (Chain.up (Chain.up (Chain.up (Chain.up hb1 hb2) hb3) hb4) hb5) hb9⟩
      · go_enter Try.func5, Try.ntmps5
        go_wp2_with (first
        | (go_at_call 13; (with_reducible refine (HO.out _).mono ?_); rintro e w1 ⟨⟨g, rfl, hk1⟩, hb1⟩)
        | (go_at_call 21; (with_reducible refine (HR.out _).mono ?_); rintro e w2 ⟨⟨a, c, rfl, he2⟩, hb2⟩; have hk2 := hk1.up hb2)
        | (go_at_call 22; (with_reducible refine (HSm.out _ _ _ _ hk2 he2).mono ?_); rintro e w3 ⟨rfl, hb3⟩; have hk3 := hk2.up hb3; have he3 := he2.up hb3)
        | (go_at_call 16; (with_reducible refine (HSk.out _ _ hk3).mono ?_); rintro e w4 ⟨rfl, hb4⟩; have he4 := he3.up hb4)
        | (go_at_call 23; (with_reducible refine (HRk.out _ _ _ he4).mono ?_); rintro e w5 ⟨rfl, hb5⟩)
        | (go_at_call 17; (with_reducible refine (awake_any _).mono ?_); rintro e w9 ⟨rfl, hb9⟩))
        go_ret
        exact ⟨rfl, Chain.up (Chain.up (Chain.up (Chain.up (Chain.up hb1 hb2) hb3) hb4) hb5) hb9⟩
    · have hno : ∀ l, ¬ P.Opens s1 l := fun l h => hex ⟨l, h⟩
      have HO := Lib.hid (fun wx => open_not hno (by omega) wx)
      have HR := Lib.hid (fun wx => ropen_n hno (by omega) wx)
      clear hno hex
      rcases h3 with ⟨h3, h3l⟩ | ⟨rfl, h3l⟩ <;> rcases h4 with ⟨h4, h4l⟩ | ⟨rfl, h4l⟩
      · go_enter Try.func5, Try.ntmps5
        go_wp2_with (first
        | (go_at_call 13; (try rw [← h3]); (with_reducible refine (HO.out _).mono ?_); rintro e w1 ⟨rfl, hb1⟩)
        | (go_at_call 21; (try rw [← h3]); (with_reducible refine (HR.out _).mono ?_); rintro e w2 ⟨⟨a, n, c, rfl⟩, hb2⟩)
        | (go_at_call 17; (with_reducible refine (awake_any _).mono ?_); rintro e w9 ⟨rfl, hb9⟩))
        go_ret
        exact ⟨rfl, Chain.up (Chain.up hb1 hb2) hb9⟩
      · go_enter Try.func5, Try.ntmps5
        go_wp2_with (first
        | (go_at_call 13; (try rw [← h3]); (with_reducible refine (HO.out _).mono ?_); rintro e w1 ⟨rfl, hb1⟩)
        | (go_at_call 21; (try rw [← h3]); (with_reducible refine (HR.out _).mono ?_); rintro e w2 ⟨⟨a, n, c, rfl⟩, hb2⟩)
        | (go_at_call 17; (with_reducible refine (awake_any _).mono ?_); rintro e w9 ⟨rfl, hb9⟩))
        go_ret
        exact ⟨rfl, Chain.up (Chain.up hb1 hb2) hb9⟩
      · go_enter Try.func5, Try.ntmps5
        go_wp2_with (first
        | (go_at_call 13; (with_reducible refine (HO.out _).mono ?_); rintro e w1 ⟨rfl, hb1⟩)
        | (go_at_call 21; (with_reducible refine (HR.out _).mono ?_); rintro e w2 ⟨⟨a, n, c, rfl⟩, hb2⟩)
        | (go_at_call 17; (with_reducible refine (awake_any _).mono ?_); rintro e w9 ⟨rfl, hb9⟩))
        go_ret
        exact ⟨rfl, Chain.up (Chain.up hb1 hb2) hb9⟩
      · go_enter Try.func5, Try.ntmps5
        go_wp2_with (first
        | (go_at_call 13; (with_reducible refine (HO.out _).mono ?_); rintro e w1 ⟨rfl, hb1⟩)
        | (go_at_call 21; (with_reducible refine (HR.out _).mono ?_); rintro e w2 ⟨⟨a, n, c, rfl⟩, hb2⟩)
        | (go_at_call 17; (with_reducible refine (awake_any _).mono ?_); rintro e w9 ⟨rfl, hb9⟩))
        go_ret
        exact ⟨rfl, Chain.up (Chain.up hb1 hb2) hb9⟩
  by_cases h8 : 8000 < s.length
  · by_cases h2 : 2000 < k.length
    · exact main (s.take 8000) (k.take 2000) (by rw [List.length_take]; omega) (by rw [List.length_take]; omega) (.inl ⟨rfl, h8⟩) (.inl ⟨rfl, h2⟩)
    · exact main (s.take 8000) k (by rw [List.length_take]; omega) (by omega) (.inl ⟨rfl, h8⟩) (.inr ⟨rfl, by omega⟩)
  · by_cases h2 : 2000 < k.length
    · exact main s (k.take 2000) (by omega) (by rw [List.length_take]; omega) (.inr ⟨rfl, by omega⟩) (.inl ⟨rfl, h2⟩)
    · exact main s k (by omega) (by omega) (.inr ⟨rfl, by omega⟩) (.inr ⟨rfl, by omega⟩)
end Go.Proofs.Ythaiekilifoegaa
