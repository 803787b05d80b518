/- ScriptReads: the acts of any bytes are the document's; the bytes stay, whatever is done to the acts. The walk of the law. -/
import Derived.Test.YtnflbgindcejjaaDoorWSLaw
import Derived.Test.YtnflbgindcejjaaDoorWSRefD
namespace Go.Proofs.YtnflbgindcejjaaDoor
open Go.RowKit
set_option linter.unusedVariables false
set_option linter.unusedSimpArgs false
attribute [local go_sem] str_takeS

/-- An act's draws that may be written. -/
def DW (w : World) (B : Nat) (r : AcR) : Prop := r.x.draws = [] ∨ ∃ g, r.da = some ⟨g, 0, none⟩ ∧ B ≤ g ∧ g < w.heap.size ∧ (∃ cur fz, w.heap[g]? = some (.cells cur 5 fz)) ∧ ∀ j, j < r.x.draws.length → (∃ c : UInt8, w.cell? ⟨g, j, none⟩ = some (u8V c)) ∧ w.frozen? ⟨g, j, none⟩ = false
theorem Dr.dw {w : World} {B : Nat} {r : AcR} (h : AcOwn w B r) : DW w B r := by
  rcases h.1 with ⟨_, h2⟩ | ⟨g, cap, h1, h0, h2, h3, _, h4, h5, _, h7⟩
  · exact .inl h2
  · injection h1 with h1 _ _
    exact .inr ⟨g, h1, h0, h2, h4, fun j hj => ⟨⟨_, h5 j hj⟩, h7 j (by omega)⟩⟩
theorem DW.up {w w' : World} {B : Nat} {r : AcR} (h : DW w B r) (hb : Below w.heap.size w w') : DW w' B r := by
  rcases h with h | ⟨g, h1, h2, h3, ⟨cur, fz, h4⟩, h5⟩
  · exact .inl h
  · exact .inr ⟨g, h1, h2, Nat.lt_of_lt_of_le h3 hb.size, ⟨cur, fz, (hb.block g h3).trans h4⟩, fun j hj => ⟨(by obtain ⟨c, hc⟩ := (h5 j hj).1; exact ⟨c, (hb.cell (p := ⟨g, j, none⟩) h3).trans hc⟩), (hb.frozen (p := ⟨g, j, none⟩) h3).trans (h5 j hj).2⟩⟩
theorem OwnG.belowG {w w' : World} {B : Nat} {v : Value} {l : List UInt8} (h : OwnG w B v l) (hb : Below w.heap.size w w') : OwnG w' B v l := h.up hb
theorem heap_set_kind {w : World} {g b i : Nat} {u : Value} {cur : Array Value} {t : TypeId} {fz : Nat × Nat} (h : w.heap[b]? = some (.cells cur t fz)) : ∃ cur', (w.setCell ⟨g, i, none⟩ u).heap[b]? = some (.cells cur' t fz) := by
  by_cases hgb : g = b
  · subst hgb
    refine ⟨cur.setIfInBounds i u, ?_⟩
    simp [World.setCell, Array.getElem?_modify, h]
  · exact ⟨cur, by simp [World.setCell, Array.getElem?_modify, hgb, h]⟩
theorem DW.set {w : World} {B g i : Nat} {c : UInt8} {r : AcR} (h : DW w B r) : DW (w.setCell ⟨g, i, none⟩ (u8V c)) B r := by
  rcases h with h | ⟨b, h1, h2, h3, ⟨cur, fz, h4⟩, h5⟩
  · exact .inl h
  · refine .inr ⟨b, h1, h2, by simpa [World.setCell] using h3, ?_, fun j hj => ⟨?_, ?_⟩⟩
    · obtain ⟨cur', h⟩ := heap_set_kind (g := g) (i := i) (u := u8V c) h4
      exact ⟨cur', fz, h⟩
    · obtain ⟨d, hd⟩ := (h5 j hj).1
      by_cases he : (⟨b, j, none⟩ : Addr) = ⟨g, i, none⟩
      · rw [← he]
        exact ⟨c, cell_set_same _ _ _ (by rw [hd]; rfl)⟩
      · exact ⟨d, (World.cell?_setCell_other _ _ _ _ (fun e => he e.symm)).trans hd⟩
    · rw [World.frozen?_setCell]
      exact (h5 j hj).2
theorem kept_set {w : World} {g i : Nat} {u : Value} {cur : Array Value} {e : TypeId} {fz : Nat × Nat} (h : w.heap[g]? = some (.cells cur e fz)) : KeptT e w (w.setCell ⟨g, i, none⟩ u) := by
  intro b t cs f ht hb
  have hne : g ≠ b := by
    intro hh
    subst hh
    rw [h] at hb
    injection hb with hb
    injection hb with _ hb
    exact ht hb.symm
  simp [World.setCell, Array.getElem?_modify, hne, hb]
theorem P.rdActs_len (s : List UInt8) : (P.rdActs 4096 s).length ≤ 4096 := (P.rdActs_is 4096 s).2.1
theorem u8_next (c : UInt8) : (Value.int .u8 (((c.toNat : Int) + 1) % 256)) = u8V (P.byt (c.toNat + 1)) := by
  unfold u8V
  rw [P.byt_toNat]
  congr 1

set_option maxRecDepth 100000 in
set_option maxHeartbeats 8000000 in
theorem law_reads (s : List UInt8) (w : World) (hs : s.length ≤ 9223372036854775807) :
    Calls Tryd.prog 5 #[S s] w fun e w' => e = .returned (.bool true) ∧ Below w.heap.size w w' := by
  by_cases hlong : 12000 < s.length
  · have hlong2 : (12000 : Int) < (s.length : Int) := by omega
    have htl : (s.take 12000).length ≤ 12000 := by rw [List.length_take]; omega
    clear hs
    go_enter Tryd.func5, Tryd.ntmps5
    go_wp2_with (refine wpList_conv_ownG (s.take 12000) (by rfl) 5 rfl Tryd.underlying9 Tryd.underlying30 Tryd.underlying5 ?hl ?_; (case hl => omega); intro v1 w1 hown1 hb1)
    (with_reducible refine (decode_any v1 (s.take 12000) w1 ?h1 (OwnG.says hown1)).mono ?_)
    case h1 => omega
    rintro e w2 ⟨rs, v2, rfl, hrd, hown2, hacs2, hb2⟩
    have hok2 := ok_of_map hrd (P.rdActs_is 4096 (s.take 12000)).1
    have hl2 := len_of_map hrd
    have hlm := P.rdActs_len (s.take 12000)
    obtain ⟨a2, c2, hv2, hat2⟩ := acts_own hown2 hacs2 hok2
    subst hv2
    have hn2 : rs.length ≤ 4096 := by omega
    have Hat2 := Lib.hid hat2
    have Hok2 := Lib.hid hok2
    clear hl2 hlm hat2 hok2
    go_wp2_with fail
    go_at_call 18
    (with_reducible refine (refDecode_any (s.take 12000) _ ?h2).mono ?_)
    case h2 => omega
    rintro e w3 ⟨qs, v3, rfl, hrd3, hown3, hacs3, hb3⟩
    have hok3 := ok_of_map hrd3 (P.rdActs_is 4096 (s.take 12000)).1
    have hl3 := len_of_map hrd3
    obtain ⟨a3, c3, hv3, hat3⟩ := acts_own hown3 hacs3 hok3
    subst hv3
    have hlq : qs.length = rs.length := by rw [hl3, ← hrd, List.length_map]
    have hsame : rs.map AcR.x = qs.map AcR.x := hrd.trans hrd3.symm
    have Hlq := Lib.hid hlq
    rw [hlq]
    clear hl3 hlq hrd hrd3
    generalize hn : rs.length = n at *
    have Hn := Lib.hid hn
    clear hn
    go_wp2_with (go_at_call 13; (with_reducible refine (same_any a2 a3 c2 c3 n n rs qs w3 ?s1 ?s2 ?s3 ?s3 (Hat2.out.up hb3) hat3 Hok2.out hok3).mono ?_); (case s1 => exact Hn.out.symm); (case s2 => exact Hlq.out.symm); (case s3 => omega); rintro e w4 ⟨⟨b4, rfl, hb4e⟩, hb4⟩; obtain rfl : b4 = true := hb4e.2 hsame)
    have hown4 : OwnActs w4 w1.heap.size (.slice a2 n c2) rs := OwnR.up (OwnR.up hown2 hb3) hb4
    have hdw4 : ∀ r ∈ rs, DW w4 w1.heap.size r := fun r hr => ((Dr.dw (hacs2 r hr)).up hb3).up hb4
    have hb14 : Below w1.heap.size w1 w4 := Chain.up (Chain.up hb2 hb3) hb4
    clear hown3 hacs3 hown2 hacs2 hat3 hok3 hb2 hb3 hb4 hsame hb4e
    go_loopw [5, 6] (fun i k' wr => ∃ j : Nat, j ≤ n ∧ i = .int .i64 j ∧ OwnActs wr w1.heap.size (.slice a2 n c2) rs ∧ (∀ r ∈ rs, DW wr w1.heap.size r) ∧ Below w1.heap.size w1 wr) (fun i _ _ => n - (intOf i).toNat)
    case atStart => exact ⟨0, by omega, rfl, hown4, hdw4, hb14⟩
    case round =>
      clear hown4 hdw4 hb14
      obtain ⟨j, hj, rfl, hown, hdw, hb⟩ := hrel
      have Hown := Lib.hid hown
      have Hdw := Lib.hid hdw
      clear hown hdw
      by_cases hlt : j < n
      · have hltl : j < rs.length := by have := Hn.out; omega
        have hmem : rs[j] ∈ rs := List.getElem_mem hltl
        go_wp2_with fail
        go_loopw [6] (fun k' wq => ∃ m : Nat, k' = .int .i64 m ∧ m ≤ rs[j].x.draws.length ∧ OwnActs wq w1.heap.size (.slice a2 n c2) rs ∧ (∀ r ∈ rs, DW wq w1.heap.size r) ∧ Below w1.heap.size w1 wq) (fun k' _ => rs[j].x.draws.length - (intOf k').toNat)
        case atStart => exact ⟨0, rfl, Nat.zero_le _, Hown.out, Hdw.out, hb⟩
        case round =>
          clear hb
          obtain ⟨m, rfl, hm, hown, hdw, hb⟩ := hrel
          have hrows : RowsAt 7 acCells wr a2 rs := by
            have h := hown
            rw [← Hn.out] at h
            exact OwnR.at h acCells_len
          obtain ⟨bb, o, ha2, hbb, c0, c1', c2', c3', c4', c5', c6'⟩ := act_at hrows j hltl
          subst ha2
          have hdj := hdw _ hmem
          have Hown2 := Lib.hid hown
          have Hdw2 := Lib.hid hdw
          clear hown hdw hrows c0 c1' c2' c4' c5' c6'
          generalize hrj : rs[j] = r at *
          obtain ⟨⟨kx, nx, tx, dx, cx⟩, dax, dcx, ax, kax, bx, kbx⟩ := r
          have hd255 : dx.length ≤ 255 := (P.right_kind (Hok2.out _ hmem).1).2.2.1
          simp only at c3' hdj hm
          by_cases hml : m < dx.length
          · rcases hdj with hd0 | ⟨g, hg1, hg2, hg3, ⟨cur, fz, hg4⟩, hg5⟩
            · have hd0' : dx = [] := hd0
              subst hd0'
              simp at hml
            · obtain rfl : dax = some ⟨g, 0, none⟩ := hg1
              obtain ⟨⟨cc, hcc⟩, hff⟩ := hg5 m hml
              unfold u8V at hcc
              have hmd : decide (m < dx.length) = true := decide_eq_true hml
              generalize dx.length = dl at *
              go_wp2_with fail
              go_roundw
              case rel =>
                rw [u8_next]
                exact ⟨m + 1, by go_num, by omega, Hown2.out.keptT (kept_set hg4) (by decide), fun r hr => (Hdw2.out r hr).set, hb.setCell (p := ⟨g, m, none⟩) hg2 _⟩
              case measure => simp [intOf]; omega
          · have hmd : decide (m < dx.length) = false := decide_eq_false hml
            clear hdj
            go_wp2_with fail
            go_roundw
            case rel => exact ⟨j + 1, by omega, by go_num, Hown2.out, Hdw2.out, hb⟩
            case measure => simp [intOf]; omega
      · obtain rfl : j = n := by omega
        have hownb : OwnG wr w.heap.size v1 (s.take 12000) := OwnG.belowG hown1 hb
        go_wp2_with (first
          | (refine wpList_strG (by rfl) hownb ?_)
          | (go_at_call 14; (with_reducible refine (awake_any _).mono ?_); rintro e w5 ⟨rfl, hb5⟩))
        go_ret
        exact ⟨rfl, Chain.up (Chain.up hb1 hb) hb5⟩
  · have hlong2 : ¬ (12000 : Int) < (s.length : Int) := by omega
    have htl : s.length ≤ 12000 := by omega
    clear hs hlong
    go_enter Tryd.func5, Tryd.ntmps5
    go_wp2_with (refine wpList_conv_ownG s (by rfl) 5 rfl Tryd.underlying9 Tryd.underlying30 Tryd.underlying5 ?hl ?_; (case hl => omega); intro v1 w1 hown1 hb1)
    (with_reducible refine (decode_any v1 s w1 ?h1 (OwnG.says hown1)).mono ?_)
    case h1 => omega
    rintro e w2 ⟨rs, v2, rfl, hrd, hown2, hacs2, hb2⟩
    have hok2 := ok_of_map hrd (P.rdActs_is 4096 s).1
    have hl2 := len_of_map hrd
    have hlm := P.rdActs_len s
    obtain ⟨a2, c2, hv2, hat2⟩ := acts_own hown2 hacs2 hok2
    subst hv2
    have hn2 : rs.length ≤ 4096 := by omega
    have Hat2 := Lib.hid hat2
    have Hok2 := Lib.hid hok2
    clear hl2 hlm hat2 hok2
    go_wp2_with fail
    go_at_call 18
    (with_reducible refine (refDecode_any s _ ?h2).mono ?_)
    case h2 => omega
    rintro e w3 ⟨qs, v3, rfl, hrd3, hown3, hacs3, hb3⟩
    have hok3 := ok_of_map hrd3 (P.rdActs_is 4096 s).1
    have hl3 := len_of_map hrd3
    obtain ⟨a3, c3, hv3, hat3⟩ := acts_own hown3 hacs3 hok3
    subst hv3
    have hlq : qs.length = rs.length := by rw [hl3, ← hrd, List.length_map]
    have hsame : rs.map AcR.x = qs.map AcR.x := hrd.trans hrd3.symm
    have Hlq := Lib.hid hlq
    rw [hlq]
    clear hl3 hlq hrd hrd3
    generalize hn : rs.length = n at *
    have Hn := Lib.hid hn
    clear hn
    go_wp2_with (go_at_call 13; (with_reducible refine (same_any a2 a3 c2 c3 n n rs qs w3 ?s1 ?s2 ?s3 ?s3 (Hat2.out.up hb3) hat3 Hok2.out hok3).mono ?_); (case s1 => exact Hn.out.symm); (case s2 => exact Hlq.out.symm); (case s3 => omega); rintro e w4 ⟨⟨b4, rfl, hb4e⟩, hb4⟩; obtain rfl : b4 = true := hb4e.2 hsame)
    have hown4 : OwnActs w4 w1.heap.size (.slice a2 n c2) rs := OwnR.up (OwnR.up hown2 hb3) hb4
    have hdw4 : ∀ r ∈ rs, DW w4 w1.heap.size r := fun r hr => ((Dr.dw (hacs2 r hr)).up hb3).up hb4
    have hb14 : Below w1.heap.size w1 w4 := Chain.up (Chain.up hb2 hb3) hb4
    clear hown3 hacs3 hown2 hacs2 hat3 hok3 hb2 hb3 hb4 hsame hb4e
    go_loopw [5, 6] (fun i k' wr => ∃ j : Nat, j ≤ n ∧ i = .int .i64 j ∧ OwnActs wr w1.heap.size (.slice a2 n c2) rs ∧ (∀ r ∈ rs, DW wr w1.heap.size r) ∧ Below w1.heap.size w1 wr) (fun i _ _ => n - (intOf i).toNat)
    case atStart => exact ⟨0, by omega, rfl, hown4, hdw4, hb14⟩
    case round =>
      clear hown4 hdw4 hb14
      obtain ⟨j, hj, rfl, hown, hdw, hb⟩ := hrel
      have Hown := Lib.hid hown
      have Hdw := Lib.hid hdw
      clear hown hdw
      by_cases hlt : j < n
      · have hltl : j < rs.length := by have := Hn.out; omega
        have hmem : rs[j] ∈ rs := List.getElem_mem hltl
        go_wp2_with fail
        go_loopw [6] (fun k' wq => ∃ m : Nat, k' = .int .i64 m ∧ m ≤ rs[j].x.draws.length ∧ OwnActs wq w1.heap.size (.slice a2 n c2) rs ∧ (∀ r ∈ rs, DW wq w1.heap.size r) ∧ Below w1.heap.size w1 wq) (fun k' _ => rs[j].x.draws.length - (intOf k').toNat)
        case atStart => exact ⟨0, rfl, Nat.zero_le _, Hown.out, Hdw.out, hb⟩
        case round =>
          clear hb
          obtain ⟨m, rfl, hm, hown, hdw, hb⟩ := hrel
          have hrows : RowsAt 7 acCells wr a2 rs := by
            have h := hown
            rw [← Hn.out] at h
            exact OwnR.at h acCells_len
          obtain ⟨bb, o, ha2, hbb, c0, c1', c2', c3', c4', c5', c6'⟩ := act_at hrows j hltl
          subst ha2
          have hdj := hdw _ hmem
          have Hown2 := Lib.hid hown
          have Hdw2 := Lib.hid hdw
          clear hown hdw hrows c0 c1' c2' c4' c5' c6'
          generalize hrj : rs[j] = r at *
          obtain ⟨⟨kx, nx, tx, dx, cx⟩, dax, dcx, ax, kax, bx, kbx⟩ := r
          have hd255 : dx.length ≤ 255 := (P.right_kind (Hok2.out _ hmem).1).2.2.1
          simp only at c3' hdj hm
          by_cases hml : m < dx.length
          · rcases hdj with hd0 | ⟨g, hg1, hg2, hg3, ⟨cur, fz, hg4⟩, hg5⟩
            · have hd0' : dx = [] := hd0
              subst hd0'
              simp at hml
            · obtain rfl : dax = some ⟨g, 0, none⟩ := hg1
              obtain ⟨⟨cc, hcc⟩, hff⟩ := hg5 m hml
              unfold u8V at hcc
              have hmd : decide (m < dx.length) = true := decide_eq_true hml
              generalize dx.length = dl at *
              go_wp2_with fail
              go_roundw
              case rel =>
                rw [u8_next]
                exact ⟨m + 1, by go_num, by omega, Hown2.out.keptT (kept_set hg4) (by decide), fun r hr => (Hdw2.out r hr).set, hb.setCell (p := ⟨g, m, none⟩) hg2 _⟩
              case measure => simp [intOf]; omega
          · have hmd : decide (m < dx.length) = false := decide_eq_false hml
            clear hdj
            go_wp2_with fail
            go_roundw
            case rel => exact ⟨j + 1, by omega, by go_num, Hown2.out, Hdw2.out, hb⟩
            case measure => simp [intOf]; omega
      · obtain rfl : j = n := by omega
        have hownb : OwnG wr w.heap.size v1 s := OwnG.belowG hown1 hb
        go_wp2_with (first
          | (refine wpList_strG (by rfl) hownb ?_)
          | (go_at_call 14; (with_reducible refine (awake_any _).mono ?_); rintro e w5 ⟨rfl, hb5⟩))
        go_ret
        exact ⟨rfl, Chain.up (Chain.up hb1 hb) hb5⟩
end Go.Proofs.YtnflbgindcejjaaDoor
