/- The walks of the script's law: some, awake; acts of Decode as arguments. -/
import Derived.Test.YtnflbgindcejjaaDoorWSSame
import Derived.Test.YtnflbgindcejjaaDoorWSEnc
import Derived.Test.YtnflbgindcejjaaDoorWSDec
namespace Go.Proofs.YtnflbgindcejjaaDoor
open Go.RowKit
set_option linter.unusedVariables false
set_option linter.unusedSimpArgs false

theorem Own.says {w : World} {B : Nat} {v : Value} {l : List UInt8} (h : Own w B v l) : Says w v l := fun wx hx => (h.up hx).string
theorem Own.isS {w : World} {B : Nat} {v : Value} {l : List UInt8} (h : Own w B v l) : ∃ a c, v = .slice a l.length c := by
  rcases h.2 with ⟨rfl, h0⟩ | ⟨g, cap, cur, rfl, _⟩
  · exact ⟨none, 0, by rw [h0]⟩
  · exact ⟨_, _, rfl⟩
theorem Dr.at {w : World} {B : Nat} {a : Option Addr} {c : Nat} {l : List UInt8} (h : Dr w B (.slice a l.length c) l) : DrawsAt w a l ∧ (a = none → c = 0) := by
  rcases h with ⟨h1, h2⟩ | ⟨g, cap, h1, _, h2, _, _, _, h5, _, _⟩
  · injection h1 with h1 _ h3
    exact ⟨.inl h2, fun _ => h3⟩
  · injection h1 with h1 _ h3
    subst h1
    exact ⟨.inr ⟨g, 0, rfl, h2, fun j hj => by rw [Nat.zero_add]; exact h5 j hj⟩, fun h => by cases h⟩
theorem AcOwn.at {w : World} {B : Nat} {r : AcR} (h : AcOwn w B r) : AcAt w r := ⟨h.1.at.1, h.1.at.2, h.2.1.at intCell_len, h.2.2.at spotCells_len⟩
theorem acts_own {w : World} {B : Nat} {v : Value} {rs : List AcR} (h : OwnActs w B v rs) (ha : ∀ r ∈ rs, AcOwn w B r) (ht : OkActs rs) : ∃ a c, v = .slice a rs.length c ∧ ActsAt w a rs := by
  obtain ⟨a, c, hv, hr, _⟩ := h.is acCells_len
  exact ⟨a, c, hv, ⟨hr, fun r hr => (ha r hr).at, fun r hr => (ht r hr).2⟩⟩
theorem ok_of_map {rs : List AcR} {l : List P.Ac} (h : rs.map AcR.x = l) (hr : P.RightL l) : OkActs rs := fun r hm => hr r.x (by rw [← h]; exact List.mem_map_of_mem hm)
theorem len_of_map {rs : List AcR} {l : List P.Ac} (h : rs.map AcR.x = l) : rs.length = l.length := by rw [← h, List.length_map]

/-- The chapter's acts. -/
def someL : List P.Ac := [⟨1, 0, [97, 98], [], P.noCr⟩, ⟨2, 5, [], [], P.noCr⟩, ⟨3, 0, [], [], P.noCr⟩, ⟨5, 0, [], [1, 2], P.noCr⟩]
def someR (g : Nat) : List AcR := [⟨⟨1, 0, [97, 98], [], P.noCr⟩, none, 0, none, 0, none, 0⟩, ⟨⟨2, 5, [], [], P.noCr⟩, none, 0, none, 0, none, 0⟩, ⟨⟨3, 0, [], [], P.noCr⟩, none, 0, none, 0, none, 0⟩, ⟨⟨5, 0, [], [1, 2], P.noCr⟩, some ⟨g, 0, none⟩, 2, none, 0, none, 0⟩]
theorem someR_x (g : Nat) : (someR g).map AcR.x = someL := rfl
theorem someL_ok : P.RightL someL := by
  intro a ha
  simp only [someL, List.mem_cons, List.not_mem_nil, or_false] at ha
  rcases ha with rfl | rfl | rfl | rfl <;> exact ⟨rfl, by decide, by decide, fun x hx => by simp [P.noCr] at hx⟩
theorem noInts (w : World) : IntsAt w none [] := fun i hi => by simp at hi
theorem noSpots (w : World) : SpotsAt w none [] := fun i hi => by simp at hi
/-- What some gives. -/
def SomeDid (w : World) (e : Ending) (w' : World) : Prop := ∃ g h, e = .returned (.slice (some ⟨h, 0, none⟩) 4 4) ∧ ActsAt w' (some ⟨h, 0, none⟩) (someR g) ∧ Below w.heap.size w w'
set_option maxRecDepth 100000 in
set_option maxHeartbeats 4000000 in
theorem some_any (w : World) : Calls Tryd.prog 10 #[] w (SomeDid w) := by
  go_enter Tryd.func10, Tryd.ntmps10
  go_wp2_with fail
  go_ret
  have hrows := rows_new 7 acCells acCells_len (w.alloc (.cells #[.int .u8 1, .int .u8 2] 5)) (someR w.heap.size) _ 32 rfl
  have hd : DrawsAt (w.alloc (.cells #[.int .u8 1, .int .u8 2] 5)) (some ⟨w.heap.size, 0, none⟩) [1, 2] := by
    refine .inr ⟨w.heap.size, 0, rfl, by simp, fun j hj => ?_⟩
    rw [World.cell?_alloc_new]
    match j, hj with
    | 0, _ => rfl
    | 1, _ => rfl
  rw [World.size_alloc] at hrows
  refine ⟨w.heap.size, w.heap.size + 1, rfl, ⟨hrows, fun r hr => ?_, fun r hr => (someL_ok r.x (by rw [← someR_x w.heap.size]; exact List.mem_map_of_mem hr)).2⟩, ((Below.refl _ _).alloc (Nat.le_refl _) _).alloc (by simp) _⟩
  simp only [someR, List.mem_cons, List.not_mem_nil, or_false] at hr
  rcases hr with rfl | rfl | rfl | rfl
  · exact ⟨.inl rfl, fun _ => rfl, noInts _, noSpots _⟩
  · exact ⟨.inl rfl, fun _ => rfl, noInts _, noSpots _⟩
  · exact ⟨.inl rfl, fun _ => rfl, noInts _, noSpots _⟩
  · exact ⟨hd.up ((Below.refl _ _).alloc (Nat.le_refl _) _), (fun h => by cases h), noInts _, noSpots _⟩
def someB : List UInt8 := [1, 2, 97, 98, 2, 5, 3, 5, 2, 1, 2]
theorem some_enc : P.encS someL = (someB, 0) := by decide
theorem some_read : P.rdActs 4096 someB = someL := by
  have h := P.rdActs_all someL 4096 someL_ok (by decide)
  rw [show P.scriptB someL = someB by decide] at h
  exact h
theorem some_small (g : Nat) : SmallT (someR g) := by
  intro r hr _
  simp only [someR, List.mem_cons, List.not_mem_nil, or_false] at hr
  rcases hr with rfl | rfl | rfl | rfl <;> simp
set_option maxRecDepth 100000 in
set_option maxHeartbeats 4000000 in
theorem awake_any (w : World) : Calls Tryd.prog 14 #[] w fun e w' => e = .returned (.bool true) ∧ Below w.heap.size w w' := by
  go_enter Tryd.func14, Tryd.ntmps14
  go_wp2_with (first
    | (go_at_call 10; (with_reducible refine (some_any _).mono ?_); rintro e w1 ⟨g, h, rfl, hat1, hb1⟩)
    | (go_at_call 9; (with_reducible refine (encode_any (some ⟨h, 0, none⟩) (someR g) 4 4 w1 rfl ?h1 hat1 ?h2).mono ?_); (case h1 => omega); (case h2 => exact some_small g); rintro e w2 ⟨v2, rfl, hown2, hb2⟩; rw [someR_x, some_enc] at hown2 ⊢)
    | (refine wpList_conv_own (by rfl) hown2 ?_))
  (with_reducible refine (decode_any v2 someB w2 ?h1 (Own.says hown2)).mono ?_)
  case h1 => decide
  rintro e w3 ⟨rs, v3, rfl, hrd, hown3, hacs3, hb3⟩
  rw [some_read] at hrd
  have hok3 := ok_of_map hrd someL_ok
  have hl3 : rs.length = 4 := len_of_map hrd
  obtain ⟨a3, c3, hv3, hat3⟩ := acts_own hown3 hacs3 hok3
  subst hv3
  rw [hl3]
  have Hl3 := Lib.hid hl3
  clear hl3
  go_wp2_with (first
    | (go_at_call 10; (with_reducible refine (some_any _).mono ?_); rintro e w4 ⟨g', h', rfl, hat4, hb4⟩)
    | (go_at_call 13; (with_reducible refine (same_any a3 (some ⟨h', 0, none⟩) c3 4 4 4 rs (someR g') w4 ?s1 rfl ?s2 ?s2 (hat3.up hb4) hat4 hok3 ?s3).mono ?_); (case s1 => exact Hl3.out.symm); (case s2 => omega); (case s3 => exact ok_of_map (someR_x g') someL_ok); rintro e w5 ⟨⟨b5, rfl, hb5e⟩, hb5⟩; obtain rfl : b5 = true := hb5e.2 (hrd.trans (someR_x g').symm)))
  go_ret
  exact ⟨rfl, Chain.up (Chain.up (Chain.up (Chain.up hb1 hb2) hb3) hb4) hb5⟩
theorem Own.draws {w : World} {B : Nat} {a : Option Addr} {c : Nat} {l : List UInt8} (h : Own w B (.slice a l.length c) l) : DrawsAt w a l ∧ (a = none → c = 0) := by
  rcases h.2 with ⟨h1, h0⟩ | ⟨g, cap, cur, h1, _, hg, hnc, _, _, htake⟩
  · injection h1 with h1 _ h3
    exact ⟨.inl (List.length_eq_zero_iff.1 h0), fun _ => h3⟩
  · injection h1 with h1 _ h3
    subst h1
    refine ⟨.inr ⟨g, 0, rfl, lt_heap hg, fun j hj => ?_⟩, fun h => by cases h⟩
    have h5 : cur.toList[j]? = some (u8V l[j]) := by
      have := congrArg (fun q : List Value => q[j]?) htake
      simp only [List.getElem?_take, Nat.mul_one] at this
      rw [if_pos hj] at this
      rw [this]
      simp [hj]
    simp only [World.cell?, hg, Nat.zero_add]
    simpa using h5
theorem Own.cap {w : World} {B : Nat} {a : Option Addr} {c : Nat} {l : List UInt8} (h : Own w B (.slice a l.length c) l) : l.length ≤ c := by
  rcases h.2 with ⟨h1, h0⟩ | ⟨g, cap, cur, h1, _, hg, hnc, _⟩
  · omega
  · injection h1 with _ _ h3
    omega
theorem DrawsAt.take {w : World} {a : Option Addr} {l : List UInt8} (h : DrawsAt w a l) (m : Nat) : DrawsAt w a (l.take m) := by
  rcases h with rfl | ⟨b, o, h1, h2, h3⟩
  · exact .inl List.take_nil
  · refine .inr ⟨b, o, h1, h2, fun j hj => ?_⟩
    rw [List.length_take] at hj
    rw [h3 j (by omega), List.getElem_take]
theorem ActsAt.one {w : World} {b o : Nat} {rs : List AcR} (h : ActsAt w (some ⟨b, o, none⟩) rs) (k : Nat) (hk : k < rs.length) : ActsAt w (some ⟨b, o + k * 7, none⟩) [rs[k]] := by
  refine ⟨fun i hi => ?_, fun r hr => ?_, fun r hr => ?_⟩
  · obtain rfl : i = 0 := by simpa using hi
    obtain ⟨b', o', he, hlt, hc⟩ := h.rows k hk
    injection he with he
    injection he with h1 h2
    subst h1 h2
    exact ⟨b, o + k * 7, rfl, hlt, fun j hj => by rw [Nat.zero_mul, Nat.add_zero]; exact hc j hj⟩
  · rw [List.mem_singleton.1 hr]; exact h.acts _ (List.getElem_mem hk)
  · rw [List.mem_singleton.1 hr]; exact h.ty _ (List.getElem_mem hk)
end Go.Proofs.YtnflbgindcejjaaDoor
