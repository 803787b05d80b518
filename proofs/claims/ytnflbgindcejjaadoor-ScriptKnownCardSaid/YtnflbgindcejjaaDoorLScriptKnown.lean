/- ScriptKnown: the chapter's examples, and the bounds of acts. The walk of the law. -/
import Derived.Test.YtnflbgindcejjaaDoorWSLaw
import Derived.Test.YtnflbgindcejjaaDoorWSApp
import Derived.Test.YtnflbgindcejjaaDoorWSRight2
import Derived.Test.YtnflbgindcejjaaDoorWInv
import Derived.Test.YtnflbgindcejjaaDoorWOwnA
import Derived.Test.YtnflbgindcejjaaDoorWMade
namespace Go.Proofs.YtnflbgindcejjaaDoor
open Go.RowKit
set_option linter.unusedVariables false
set_option linter.unusedSimpArgs false

/-- The chapter's fuse. -/
def fuseA : P.Ac := ⟨6, 3, [], [], ⟨1, [7], [(2, 255)]⟩⟩
def fuseR (g : Nat) : AcR := ⟨fuseA, none, 0, some ⟨g, 0, none⟩, 1, some ⟨g + 1, 0, none⟩, 1⟩
def fuseB : List UInt8 := [6, 3, 1, 1, 7, 1, 2, 0, 0, 0, 255]
theorem fuse_enc : P.encS [fuseA] = (fuseB, 0) := by decide

theorem fuse_ty : P.tyAc fuseA := by
  refine ⟨by decide, by decide, fun x hx => ?_⟩
  obtain rfl := List.mem_singleton.1 hx
  decide
/-- The fuse's slice, as the law builds it. -/
theorem fuse_at (w : World) (x : Obj) : ActsAt ((((w.alloc (.cells #[.int .i64 7] 3)).alloc (.cells #[.int .i64 2, .int .u32 255] 26)).alloc x).alloc (.cells (acCells (fuseR w.heap.size)).toArray 32)) (some ⟨w.heap.size + 1 + 1 + 1, 0, none⟩) [fuseR w.heap.size] := by
  have h1 : IntsAt (w.alloc (.cells #[.int .i64 7] 3)) (some ⟨w.heap.size, 0, none⟩) [7] := rows_new 1 intCell intCell_len w [7] _ 3 rfl
  have h2 : SpotsAt ((w.alloc (.cells #[.int .i64 7] 3)).alloc (.cells #[.int .i64 2, .int .u32 255] 26)) (some ⟨w.heap.size + 1, 0, none⟩) [(2, 255)] := by
    have h := rows_new 2 spotCells spotCells_len (w.alloc (.cells #[.int .i64 7] 3)) [(2, 255)] _ 26 rfl
    rw [World.size_alloc] at h
    exact h
  have h3 := rows_new 7 acCells acCells_len (((w.alloc (.cells #[.int .i64 7] 3)).alloc (.cells #[.int .i64 2, .int .u32 255] 26)).alloc x) [fuseR w.heap.size] _ 32 rfl
  rw [World.size_alloc, World.size_alloc, World.size_alloc] at h3
  refine ⟨h3, fun r hr => ?_, fun r hr => ?_⟩
  · obtain rfl := List.mem_singleton.1 hr
    exact ⟨.inl rfl, fun _ => rfl, RowsAt.up h1 ((((Below.refl _ _).alloc (Nat.le_refl _) _).alloc (by simp) _).alloc (by simp) _), RowsAt.up h2 (((Below.refl _ _).alloc (Nat.le_refl _) _).alloc (by simp) _)⟩
  · obtain rfl := List.mem_singleton.1 hr
    exact fuse_ty
theorem short_ok' : P.RightL (someL.take 3) := fun x hx => someL_ok x (List.mem_of_mem_take hx)
theorem P.rdActs_bad (f : Nat) (s : List UInt8) (h : P.rdAct s = none) : P.rdActs f s = [] := by
  cases f with
  | zero => rfl
  | succ f => unfold P.rdActs; rw [h]
theorem short_read : P.rdActs 4096 (someB.take 10) = someL.take 3 := by
  have h := P.rdActs_app (someL.take 3) 4093 [5, 2, 1] short_ok'
  rw [P.rdActs_bad 4093 [5, 2, 1] (by decide), List.append_nil] at h
  exact h
theorem more_read : P.rdActs 4096 (someB ++ [9]) = someL := by
  have h := P.rdActs_app someL 4092 [9] someL_ok
  rw [P.rdActs_bad 4092 [9] (by decide), List.append_nil, show P.scriptB someL = someB by decide] at h
  exact h
theorem short_ok : P.RightL (someL.take 3) := fun x hx => someL_ok x (List.mem_of_mem_take hx)
-- BAD
/-- The acts that may not be. -/
def badL (D Z : List UInt8) : List P.Ac := [⟨2, 5, [120], [], P.noCr⟩, ⟨8, 0, [], [], P.noCr⟩, ⟨0, 0, [], [], P.noCr⟩, ⟨7, 0, [], [], ⟨-1, [], []⟩⟩, ⟨7, 1, [], [], P.noCr⟩, ⟨3, 0, [], [], ⟨0, [0], []⟩⟩, ⟨6, 0, [], [], ⟨0, [2147483648], []⟩⟩, ⟨5, 0, [], D, P.noCr⟩, ⟨1, 0, Z, [], P.noCr⟩]
def badR (D Z : List UInt8) (g5 g6 g7 : Nat) : List AcR := [⟨⟨2, 5, [120], [], P.noCr⟩, none, 0, none, 0, none, 0⟩, ⟨⟨8, 0, [], [], P.noCr⟩, none, 0, none, 0, none, 0⟩, ⟨⟨0, 0, [], [], P.noCr⟩, none, 0, none, 0, none, 0⟩, ⟨⟨7, 0, [], [], ⟨-1, [], []⟩⟩, none, 0, none, 0, none, 0⟩, ⟨⟨7, 1, [], [], P.noCr⟩, none, 0, none, 0, none, 0⟩, ⟨⟨3, 0, [], [], ⟨0, [0], []⟩⟩, none, 0, some ⟨g5, 0, none⟩, 1, none, 0⟩, ⟨⟨6, 0, [], [], ⟨0, [2147483648], []⟩⟩, none, 0, some ⟨g6, 0, none⟩, 1, none, 0⟩, ⟨⟨5, 0, [], D, P.noCr⟩, some ⟨g7, 0, none⟩, D.length, none, 0, none, 0⟩, ⟨⟨1, 0, Z, [], P.noCr⟩, none, 0, none, 0, none, 0⟩]
theorem badR_x (D Z : List UInt8) (g5 g6 g7 : Nat) : (badR D Z g5 g6 g7).map AcR.x = badL D Z := rfl
theorem bad_no (D Z : List UInt8) (hD : D.length = 256) (hZ : Z.length = 65537) : ∀ x ∈ badL D Z, P.rightB x = false ∧ P.tyAc x := by
  intro x hx
  have h0 : P.tyAc ⟨2, 5, [120], [], P.noCr⟩ := ⟨by decide, by decide, fun x hx => by simp [P.noCr] at hx⟩
  simp only [badL, List.mem_cons, List.not_mem_nil, or_false] at hx
  rcases hx with rfl | rfl | rfl | rfl | rfl | rfl | rfl | rfl | rfl
  iterate 7 exact ⟨by decide, by decide, by decide, fun x hx => by simp [P.noCr] at hx⟩
  · exact ⟨by unfold P.rightB; simp [hD], show 5 < 256 by decide, show 0 < 18446744073709551616 by decide, fun x hx => by simp [P.noCr] at hx⟩
  · exact ⟨by unfold P.rightB; simp [hZ], show 1 < 256 by decide, show 0 < 18446744073709551616 by decide, fun x hx => by simp [P.noCr] at hx⟩
theorem bad_at {w : World} {D Z : List UInt8} {g g5 g6 g7 : Nat} (hr : RowsAt 7 acCells w (some ⟨g, 0, none⟩) (badR D Z g5 g6 g7)) (h5 : IntsAt w (some ⟨g5, 0, none⟩) [0]) (h6 : IntsAt w (some ⟨g6, 0, none⟩) [2147483648]) (h7 : DrawsAt w (some ⟨g7, 0, none⟩) D) (hD : D.length = 256) (hZ : Z.length = 65537) :
    ActsAt w (some ⟨g, 0, none⟩) (badR D Z g5 g6 g7) := by
  refine ⟨hr, fun r hr => ?_, fun r hr => (bad_no D Z hD hZ r.x (by rw [← badR_x D Z g5 g6 g7]; exact List.mem_map_of_mem hr)).2⟩
  simp only [badR, List.mem_cons, List.not_mem_nil, or_false] at hr
  rcases hr with rfl | rfl | rfl | rfl | rfl | rfl | rfl | rfl | rfl
  iterate 5 exact ⟨.inl rfl, fun _ => rfl, noInts _, noSpots _⟩
  · exact ⟨.inl rfl, fun _ => rfl, h5, noSpots _⟩
  · exact ⟨.inl rfl, fun _ => rfl, h6, noSpots _⟩
  · exact ⟨h7, (fun h => by cases h), noInts _, noSpots _⟩
  · exact ⟨.inl rfl, fun _ => rfl, noInts _, noSpots _⟩
def flushA : P.Ac := ⟨3, 0, [], [], P.noCr⟩
def flushR : AcR := ⟨flushA, none, 0, none, 0, none, 0⟩
theorem flush_ty : P.tyAc flushA := ⟨by decide, by decide, fun x hx => by simp [flushA, P.noCr] at hx⟩
theorem flush_at (w : World) : AcAt w flushR := ⟨.inl rfl, fun _ => rfl, noInts _, noSpots _⟩
/-- An act behind a flush. -/
theorem two_at {w : World} {r : AcR} (hr : AcAt w r) (ht : P.tyAc r.x) (A : Array Value) (hA : A = ([flushR, r].flatMap acCells).toArray) : ActsAt (w.alloc (.cells A 32)) (some ⟨w.heap.size, 0, none⟩) [flushR, r] := by
  refine ⟨rows_new 7 acCells acCells_len w [flushR, r] _ _ hA, fun q hq => ?_, fun q hq => ?_⟩
  · simp only [List.mem_cons, List.not_mem_nil, or_false] at hq
    rcases hq with rfl | rfl
    · exact flush_at _
    · exact hr.up ((Below.refl _ _).alloc (Nat.le_refl _) _)
  · simp only [List.mem_cons, List.not_mem_nil, or_false] at hq
    rcases hq with rfl | rfl
    · exact flush_ty
    · exact ht
theorem two_not {r : AcR} (h : P.rightB r.x = false) : P.encS ([flushR, r].map AcR.x) = ([], 1) := by
  unfold P.encS
  rw [if_neg (by simp), if_neg (by simp [h])]
theorem two_small {r : AcR} (h : P.rightB r.x = false) : SmallT [flushR, r] := by
  intro q hq hR
  simp only [List.mem_cons, List.not_mem_nil, or_false] at hq
  rcases hq with rfl | rfl
  · exact Nat.zero_le _
  · rw [h] at hR; cases hR
def zeroR : AcR := ⟨P.noAc, none, 0, none, 0, none, 0⟩
/-- While the flushes are laid: k of n are there. -/
def layA (n k : Nat) : List AcR := List.replicate k flushR ++ List.replicate (n - k) zeroR
theorem layA_len (n k : Nat) (h : k ≤ n) : (layA n k).length = n := by simp [layA]; omega
theorem layA_next (n k : Nat) (h : k < n) : (layA n k).set k flushR = layA n (k + 1) := by
  unfold layA
  rw [List.set_append_right k _ (by simp), List.length_replicate, Nat.sub_self, show n - k = (n - (k + 1)) + 1 by omega, List.replicate_succ, List.set_cons_zero, List.replicate_succ', List.append_assoc]
  rfl
theorem layA_at (n k : Nat) (h : k < n) : (layA n k)[k]? = some zeroR := by
  unfold layA
  rw [List.getElem?_append_right (by simp), List.length_replicate, Nat.sub_self, show n - k = (n - (k + 1)) + 1 by omega, List.replicate_succ]
  rfl
theorem layA_full (n : Nat) : layA n n = List.replicate n flushR := by simp [layA]
/-- A box of structs of seven cells, the first cell of one of them written anew. -/
theorem Bx.put0 {w : World} {g : Nat} {t : TypeId} {l : List AcR} (h : Bx w g t (l.flatMap acCells).toArray) (i : Nat) (y x : AcR) (hy : l[i]? = some y) (v : Value) (hx : acCells x = v :: (acCells y).tail) :
    Bx (w.setCell ⟨g, i * 7, none⟩ v) g t ((l.set i x).flatMap acCells).toArray := by
  have h0 := h.set (i * 7) v
  have hi : i < l.length := by
    rcases Nat.lt_or_ge i l.length with h | h
    · exact h
    · rw [List.getElem?_eq_none h] at hy; cases hy
  have e : (l.flatMap acCells).toArray.setIfInBounds (i * 7) v = ((l.set i x).flatMap acCells).toArray := by
    refine Array.ext_getElem? (fun j => ?_)
    have hsz : (l.flatMap acCells).length = l.length * 7 := flat_len 7 acCells acCells_len l
    have hsz2 : ((l.set i x).flatMap acCells).length = l.length * 7 := by rw [flat_len 7 acCells acCells_len, List.length_set]
    by_cases hj : j < l.length * 7
    · have hf := flat_set_at acCells_len l i x j hj
      have e2 : ((l.set i x).flatMap acCells).toArray[j]? = ((l.set i x).flatMap acCells)[j]? := by simp
      have e3 : (l.flatMap acCells).toArray[j]? = (l.flatMap acCells)[j]? := by simp
      rw [e2, hf, hx]
      by_cases hji : j / 7 = i
      · rw [if_pos hji]
        have hm : j % 7 < 7 := Nat.mod_lt _ (by omega)
        have hjk : i * 7 + j % 7 = j := by rw [← hji, Nat.mul_comm]; exact Nat.div_add_mod j 7
        have h1 := flat_at 7 acCells acCells_len l i (j % 7) hi hm
        rw [hjk, (List.getElem_eq_iff hi).2 hy] at h1
        by_cases hr : j % 7 = 0
        · have hj' : i * 7 = j := by omega
          subst hj'
          rw [Array.getElem?_setIfInBounds_self_of_lt (by rw [List.size_toArray, hsz]; exact hj), hr]
          rfl
        · rw [Array.getElem?_setIfInBounds_ne (by omega), e3, h1]
          obtain ⟨q, hq⟩ : ∃ q, j % 7 = q + 1 := ⟨j % 7 - 1, by omega⟩
          rw [hq, List.getElem?_cons_succ]
          rfl
      · rw [if_neg hji, Array.getElem?_setIfInBounds_ne (by intro h; exact hji (by omega)), e3]
    · rw [Array.getElem?_eq_none (by simp [hsz]; omega), Array.getElem?_eq_none (by simp [hsz2]; omega)]
  rw [e] at h0
  exact h0
theorem flushes_at {w : World} {a : Option Addr} {n : Nat} (h : RowsAt 7 acCells w a (List.replicate n flushR)) : ActsAt w a (List.replicate n flushR) := by
  refine ⟨h, fun r hr => ?_, fun r hr => ?_⟩
  · obtain rfl := List.eq_of_mem_replicate hr; exact flush_at w
  · obtain rfl := List.eq_of_mem_replicate hr; exact flush_ty
theorem flushes_right (n : Nat) : P.RightL (List.replicate n flushA) := fun x hx => by
  obtain rfl := List.eq_of_mem_replicate hx
  exact ⟨by decide, flush_ty⟩
theorem flushes_script (n : Nat) : P.scriptB (List.replicate n flushA) = List.replicate n 3 := by
  induction n with
  | zero => rfl
  | succ n ih =>
    rw [List.replicate_succ, P.scriptB_cons, ih, List.replicate_succ]
    rfl
theorem enc_flush (n : Nat) (hn : n ≤ 4096) (a : Option Addr) (c : Nat) (w : World) (h : RowsAt 7 acCells w a (List.replicate n flushR)) :
    Calls Tryd.prog 9 #[.slice a n c] w fun e w' => ∃ v d, e = .returned (.tuple #[v, .int .i64 0]) ∧ Own w' w.heap.size v d ∧ Hid (d = List.replicate n 3) ∧ Hid (d.length = n) ∧ Below w.heap.size w w' := by
  refine (encode_any a (List.replicate n flushR) c n w (by simp) (by omega) (flushes_at h) (fun r hr _ => by obtain rfl := List.eq_of_mem_replicate hr; exact Nat.zero_le _)).mono ?_
  rintro e w' ⟨v, rfl, hown, hb⟩
  have he : P.encS ((List.replicate n flushR).map AcR.x) = (List.replicate n 3, 0) := by
    rw [List.map_replicate]
    unfold P.encS
    rw [if_neg (by simp; omega), if_pos (by simp only [List.all_replicate]; split <;> rfl), ← flushes_script]
    rfl
  rw [he] at hown ⊢
  exact ⟨v, _, rfl, hown, Lib.hid rfl, Lib.hid List.length_replicate, hb⟩
theorem enc_many (n : Nat) (hn : 4096 < n) (hn2 : n ≤ 1000000) (a : Option Addr) (c : Nat) (w : World) (h : RowsAt 7 acCells w a (List.replicate n flushR)) :
    Calls Tryd.prog 9 #[.slice a n c] w fun e w' => ∃ v, e = .returned (.tuple #[v, .int .i64 3]) ∧ Below w.heap.size w w' := by
  refine (encode_any a (List.replicate n flushR) c n w (by simp) (by omega) (flushes_at h) (fun r hr _ => by obtain rfl := List.eq_of_mem_replicate hr; exact Nat.zero_le _)).mono ?_
  rintro e w' ⟨v, rfl, hown, hb⟩
  have he : P.encS ((List.replicate n flushR).map AcR.x) = ([], 3) := by
    unfold P.encS
    rw [if_pos (by simp; omega)]
  rw [he] at hown ⊢
  exact ⟨v, rfl, hb⟩
theorem enc_none (w : World) :
    Calls Tryd.prog 9 #[.slice none 0 0] w fun e w' => ∃ a c, e = .returned (.tuple #[.slice a 0 c, .int .i64 0]) ∧ Below w.heap.size w w' := by
  refine (encode_any none [] 0 0 w rfl (by omega) ⟨fun i hi => by simp at hi, fun r hr => by simp at hr, fun r hr => by simp at hr⟩ (fun r hr => by simp at hr)).mono ?_
  rintro e w' ⟨v, rfl, hown, hb⟩
  obtain ⟨a, c, hv⟩ := Own.isS hown
  subst hv
  exact ⟨a, c, rfl, hb⟩
theorem flushes_read (n : Nat) : P.rdActs n (List.replicate n 3 ++ [3]) = List.replicate n flushA := by
  have h := P.rdActs_app (List.replicate n flushA) 0 [3] (flushes_right n)
  rw [flushes_script, List.length_replicate, Nat.add_zero] at h
  rw [h]
  exact List.append_nil _
theorem ActsAt.takeK {w : World} {a : Option Addr} {rs : List AcR} (h : ActsAt w a rs) (j : Nat) : ActsAt w a (rs.take j) :=
  ⟨rows_take h.rows j, fun r hr => h.acts r (List.mem_of_mem_take hr), fun r hr => h.ty r (List.mem_of_mem_take hr)⟩
/-- What a slot of the row's making holds. -/
inductive K29t where
  | ints (l : List Int)
  | crash (l : List Int)
  | keep (k : Nat) (l : List Int)
  | bytes (l : List UInt8)
  | draws
  | str
  | text
  | rows
  | any
def K29t.holds (D Z : List UInt8) : K29t → Value → World → Prop
  | .ints l, v, w => ∃ g, v = .slice (some ⟨g, 0, none⟩) 1 1 ∧ IntsAt w (some ⟨g, 0, none⟩) l
  | .crash l, v, w => ∃ g, v = .agg #[.int .i64 0, .slice (some ⟨g, 0, none⟩) 1 1, .slice none 0 0] ∧ IntsAt w (some ⟨g, 0, none⟩) l
  | .keep k l, v, w => ∃ g, v = .agg #[.int .u8 k, .int .u64 0, S [], .slice none 0 0, .int .i64 0, .slice (some ⟨g, 0, none⟩) 1 1, .slice none 0 0] ∧ IntsAt w (some ⟨g, 0, none⟩) l
  | .bytes l, v, w => ∃ g n, v = .slice (some ⟨g, 0, none⟩) n n ∧ n = l.length ∧ DrawsAt w (some ⟨g, 0, none⟩) l
  | .draws, v, w => ∃ g n, v = .agg #[.int .u8 5, .int .u64 0, S [], .slice (some ⟨g, 0, none⟩) n n, .int .i64 0, .slice none 0 0, .slice none 0 0] ∧ n = D.length ∧ DrawsAt w (some ⟨g, 0, none⟩) D
  | .str, v, _ => v = S Z
  | .text, v, _ => v = .agg #[.int .u8 1, .int .u64 0, S Z, .slice none 0 0, .int .i64 0, .slice none 0 0, .slice none 0 0]
  | .rows, v, w => ∃ g g5 g6 g7, v = .slice (some ⟨g, 0, none⟩) 9 9 ∧ RowsAt 7 acCells w (some ⟨g, 0, none⟩) (badR D Z g5 g6 g7) ∧ IntsAt w (some ⟨g5, 0, none⟩) [0] ∧ IntsAt w (some ⟨g6, 0, none⟩) [2147483648] ∧ DrawsAt w (some ⟨g7, 0, none⟩) D
  | .any, _, _ => True
def spec29 (D Z : List UInt8) : Nat → K29t
  | 6 => .ints [0]
  | 7 => .crash [0]
  | 8 => .keep 3 [0]
  | 9 => .ints [2147483648]
  | 10 => .crash [2147483648]
  | 11 => .keep 6 [2147483648]
  | 12 => .bytes D
  | 13 => .draws
  | 14 => .bytes Z
  | 15 => .str
  | 16 => .text
  | 17 => .rows
  | 18 => .rows
  | _ => .any
def K29 (D Z : List UInt8) (i : Nat) (v : Value) (w : World) : Prop := (spec29 D Z i).holds D Z v w
theorem K29_up (D Z : List UInt8) (i : Nat) (v : Value) (w w' : World) (h : K29 D Z i v w) (hb : Below w.heap.size w w') : K29 D Z i v w' := by
  unfold K29 at *
  generalize spec29 D Z i = s at *
  cases s with
  | ints l => obtain ⟨g, h1, h2⟩ := h; exact ⟨g, h1, RowsAt.up h2 hb⟩
  | crash l => obtain ⟨g, h1, h2⟩ := h; exact ⟨g, h1, RowsAt.up h2 hb⟩
  | keep k l => obtain ⟨g, h1, h2⟩ := h; exact ⟨g, h1, RowsAt.up h2 hb⟩
  | bytes l => obtain ⟨g, n, h1, h2, h3⟩ := h; exact ⟨g, n, h1, h2, h3.up hb⟩
  | draws => obtain ⟨g, n, h1, h2, h3⟩ := h; exact ⟨g, n, h1, h2, h3.up hb⟩
  | str => exact h
  | text => exact h
  | rows => obtain ⟨g, g5, g6, g7, h1, h2, h3, h4, h5⟩ := h; exact ⟨g, g5, g6, g7, h1, RowsAt.up h2 hb, RowsAt.up h3 hb, RowsAt.up h4 hb, h5.up hb⟩
  | any => trivial
/-- Bytes that are made. -/
theorem made_draws (w : World) (n : Nat) : DrawsAt (w.alloc (.cells (madeCells #[Value.int .u8 0] n) 5)) (some ⟨w.heap.size, 0, none⟩) (List.replicate n 0) := by
  have hx := Bx.fresh w 5 (madeCells #[Value.int .u8 0] n)
  refine .inr ⟨w.heap.size, 0, rfl, hx.lt, fun j hj => ?_⟩
  rw [List.length_replicate] at hj
  rw [Nat.zero_add, hx.cell]
  simp [madeCells, hj, Nat.mod_one, u8V]
-- END BAD
set_option maxRecDepth 100000 in
set_option maxHeartbeats 4000000 in
theorem law_known (w : World) : Calls Tryd.prog 3 #[] w fun e w' => e = .returned (.bool true) ∧ Below w.heap.size w w' := by
  go_enter Tryd.func3, Tryd.ntmps3
  go_wp2_with fail
  (refine (encode_any (some ⟨w.heap.size + 1 + 1 + 1, 0, none⟩) [fuseR w.heap.size] 1 1 _ rfl ?h1 (fuse_at w _) ?h2).mono ?_)
  case h1 => omega
  case h2 => intro r hr _; obtain rfl := List.mem_singleton.1 hr; exact Nat.zero_le _
  rintro e w2 ⟨v2, rfl, hown2, hb2⟩
  rw [show [fuseR w.heap.size].map AcR.x = [fuseA] from rfl, fuse_enc] at hown2 ⊢
  have hb02 : Below w.heap.size w w2 := Chain.up (((((Below.refl _ _).alloc (Nat.le_refl _) _).alloc (by simp) _).alloc (by simp; omega) _).alloc (by simp; omega) _) hb2
  clear hb2
  simp only [World.size_alloc] at hown2
  go_wp2_with (first
    | (go_at_call 10; (with_reducible refine (some_any _).mono ?_); rintro e w3 ⟨g3, h3, rfl, hat3, hb3⟩)
    | (go_at_call 9; (with_reducible refine (encode_any (some ⟨h3, 0, none⟩) (someR g3) 4 4 w3 rfl ?h1 hat3 ?h2).mono ?_); (case h1 => omega); (case h2 => exact some_small g3); rintro e w4 ⟨v4, rfl, hown4, hb4⟩; rw [someR_x, some_enc] at hown4 ⊢; obtain ⟨a4, c4, hv4⟩ := Own.isS hown4; subst hv4; have hcap4 := hown4.cap; rw [show someB.length = 11 from rfl] at hcap4 ⊢))
  have hdr4 := hown4.draws
  (with_reducible refine (decode_any (.slice a4 10 c4) (someB.take 10) w4 ?h1 ((hdr4.1.take 10).says ?h2 hdr4.2)).mono ?_)
  case h1 => decide
  case h2 => decide
  rintro e w5 ⟨ls, v5, rfl, hld, hown5, hacs5, hb5⟩
  rw [short_read] at hld
  have hok5 := ok_of_map hld short_ok
  have hlen5 : ls.length = 3 := len_of_map hld
  obtain ⟨a5, c5, hv5, hat5⟩ := acts_own hown5 hacs5 hok5
  subst hv5
  rw [hlen5]
  have hb05 := Chain.up (Chain.up (Chain.up hb02 hb3) hb4) hb5
  have hown45 := hown4.up hb5
  clear hdr4 hown4 hown5 hacs5 hat3 hlen5
  have hrE := (own_rows.1 hown45).at byC_len
  have hA := (Below.refl w5.heap.size w5).alloc (Nat.le_refl _) (.cells #[] 5)
  have hown0 : OwnR 5 1 byC (w5.alloc (.cells #[] 5)) w5.heap.size (.slice (some ⟨w5.heap.size, 0, none⟩) 0 0) [] := OwnR.lit byC_len [] _ rfl (by simp) (Nat.le_refl _) _ _ _ rfl rfl rfl
  go_wp2_with (first
    | (at_builtin; (refine wpList_appB (by rfl) _ _ (by rfl) w5.heap.size _ [] someB (by rfl) hown0 ?q1 _ _ _ (by rfl) ?q2 (RowsAt.up hrE hA) hA.size ?_); (case q1 => decide); (case q2 => rfl); intro v6 w6 hown6 hb6 hkt6; (rw [List.nil_append] at hown6); obtain ⟨a6, c6, hv6, hr6, _⟩ := hown6.is byC_len; (subst hv6); have hb56 := hA.trans hb6; have hown6' := hown6.alloc (.cells #[.int .u8 9] 5); have hr9 := rows_new 1 byC byC_len w6 [9] #[.int .u8 9] 5 rfl; have hb56' := hb56.alloc hb56.size (.cells #[.int .u8 9] 5))
    | (at_builtin; (refine wpList_appB (by rfl) _ _ (by rfl) w5.heap.size _ someB [9] (by rfl) hown6' ?q3 _ _ _ (by rfl) ?q4 hr9 hb56'.size ?_); (case q3 => decide); (case q4 => rfl); intro v8 w8 hown8 hb8 hkt8; have hb58 := hb56'.trans hb8))
  have hs8 := Own.says (own_rows.2 hown8)
  (with_reducible refine (decode_any v8 (someB ++ [9]) w8 ?h3 hs8).mono ?_)
  case h3 => decide
  rintro e w9 ⟨ms, v9, rfl, hmd, hown9, hacs9, hb9⟩
  rw [more_read] at hmd
  have hok9 := ok_of_map hmd someL_ok
  have hlen9 : ms.length = 4 := len_of_map hmd
  obtain ⟨a9, c9, hv9, hat9⟩ := acts_own hown9 hacs9 hok9
  subst hv9
  rw [hlen9]
  have hb29 := Chain.up (Chain.up (Chain.up (Chain.up hb3 hb4) hb5) hb58) hb9
  have hb09 := Chain.up hb02 hb29
  have hown29 := hown2.up hb29
  have hat59 := hat5.up (Chain.up hb58 hb9)
  have Hld := Lib.hid hld
  have Hmd := Lib.hid hmd
  clear hld hmd hb02 hb3 hb4 hb5 hb58 hb9 hb29 hown2 hat5 hown9 hacs9 hlen9 hs8 hown8 hb8 hkt8 hb56' hb56 hr9 hown6' hr6 hkt6 hb6 hown6 hown0 hA hrE hown45 hb05
  go_wp2_with fail
  -- REGION 8
  have HmD := Lib.hid (fun wx : World => show (Instr.makeSlice 30 (.int .i64 256) (.int .i64 256)).run Tryd.prog wx = .ok (.slice (some ⟨wx.heap.size, 0, none⟩) 256 256) (wx.alloc (.cells (madeCells #[Value.int .u8 0] 256) 5)) from run_make_row' 30 5 (.int .u8 0) 1 Tryd.underlying30 info8 rfl .i64 .i64 256 (by omega) (by omega) wx)
  have HpD := Lib.hid (fun wx : World => made_draws wx 256)
  have HmZ := Lib.hid (fun wx : World => show (Instr.makeSlice 30 (.int .i64 65537) (.int .i64 65537)).run Tryd.prog wx = .ok (.slice (some ⟨wx.heap.size, 0, none⟩) 65537 65537) (wx.alloc (.cells (madeCells #[Value.int .u8 0] 65537) 5)) from run_make_row' 30 5 (.int .u8 0) 1 Tryd.underlying30 info8 rfl .i64 .i64 65537 (by omega) (by omega) wx)
  have HpZ := Lib.hid (fun wx : World => made_draws wx 65537)
  have HD := Lib.hid (List.length_replicate (n := 256) (a := (0 : UInt8)))
  have HZ := Lib.hid (List.length_replicate (n := 65537) (a := (0 : UInt8)))
  generalize List.replicate 256 (0 : UInt8) = D at *
  generalize List.replicate 65537 (0 : UInt8) = Z at *
  generalize madeCells #[Value.int .u8 0] 256 = cD at *
  generalize madeCells #[Value.int .u8 0] 65537 = cZ at *
  refine wp_region_held_drew (S := fun wx => Below w9.heap.size w9 wx) (by kernel_rfl) (Below.refl _ _).drew (fun hHeld => ?_)
  refine wpAnyH_take (i := 0) (v := ?_) rfl (by kernel_rfl) (by kernel_rfl) (by kernel_rfl) (fun _ _ _ h => h) (Or.inl ⟨by rfl, ?_⟩) hHeld ?_
  rotate_left
  · intro wq hSw; go_simp; (try with_reducible rfl)
  simp only [Act.put, List.getElem_toArray, List.getElem_cons_succ, List.getElem_cons_zero, List.setIfInBounds_toArray, List.set_cons_zero, List.set_cons_succ]
  refine wpAnyH_take (i := 1) (v := ?_) rfl (by kernel_rfl) (by kernel_rfl) (by kernel_rfl) (fun _ _ _ h => h) (Or.inl ⟨by rfl, ?_⟩) hHeld ?_
  rotate_left
  · intro wq hSw; go_simp; (try with_reducible rfl)
  simp only [Act.put, List.getElem_toArray, List.getElem_cons_succ, List.getElem_cons_zero, List.setIfInBounds_toArray, List.set_cons_zero, List.set_cons_succ]
  refine wpAnyH_take (i := 2) (v := ?_) rfl (by kernel_rfl) (by kernel_rfl) (by kernel_rfl) (fun _ _ _ h => h) (Or.inl ⟨by rfl, ?_⟩) hHeld ?_
  rotate_left
  · intro wq hSw; go_simp; (try with_reducible rfl)
  simp only [Act.put, List.getElem_toArray, List.getElem_cons_succ, List.getElem_cons_zero, List.setIfInBounds_toArray, List.set_cons_zero, List.set_cons_succ]
  refine wpAnyH_take (i := 3) (v := ?_) rfl (by kernel_rfl) (by kernel_rfl) (by kernel_rfl) (fun _ _ _ h => h) (Or.inl ⟨by rfl, ?_⟩) hHeld ?_
  rotate_left
  · intro wq hSw; go_simp; (try with_reducible rfl)
  simp only [Act.put, List.getElem_toArray, List.getElem_cons_succ, List.getElem_cons_zero, List.setIfInBounds_toArray, List.set_cons_zero, List.set_cons_succ]
  refine wpAnyH_take (i := 4) (v := ?_) rfl (by kernel_rfl) (by kernel_rfl) (by kernel_rfl) (fun _ _ _ h => h) (Or.inl ⟨by rfl, ?_⟩) hHeld ?_
  rotate_left
  · intro wq hSw; go_simp; (try with_reducible rfl)
  simp only [Act.put, List.getElem_toArray, List.getElem_cons_succ, List.getElem_cons_zero, List.setIfInBounds_toArray, List.set_cons_zero, List.set_cons_succ]
  refine wpAnyH_take (i := 5) (v := ?_) rfl (by kernel_rfl) (by kernel_rfl) (by kernel_rfl) (fun _ _ _ h => h) (Or.inl ⟨by rfl, ?_⟩) hHeld ?_
  rotate_left
  · intro wq hSw; go_simp; (try with_reducible rfl)
  simp only [Act.put, List.getElem_toArray, List.getElem_cons_succ, List.getElem_cons_zero, List.setIfInBounds_toArray, List.set_cons_zero, List.set_cons_succ]
  refine wpAnyH_by (K29 D Z) (fun wx wy => Below wx.heap.size wx wy) [(6, some 57), (7, some 58), (8, some 59), (9, some 60), (10, some 61), (11, some 62), (12, some 63), (13, some 64), (14, some 65), (15, some 66), (16, some 67), (17, some 68), (18, some 8)] 0 rfl (by kernel_rfl) (by kernel_rfl) (by kernel_rfl) (by kernel_rfl) (by kernel_rfl) (by kernel_rfl) (by kernel_rfl) (K29_up D Z) hHeld ?_ ?_
  · skip
    refine StepsI.skip (by kernel_rfl) ?_
    refine StepsI.skip (by kernel_rfl) ?_
    refine StepsI.skip (by kernel_rfl) ?_
    refine StepsI.skip (by kernel_rfl) ?_
    refine StepsI.skip (by kernel_rfl) ?_
    refine StepsI.skip (by kernel_rfl) ?_
    refine StepsI.cons (fun vals wx hS hd K hK => ?_) ?_
    · simp only [fillA, Act.put, List.setIfInBounds_toArray, List.set_cons_zero, List.set_cons_succ] at hK ⊢
      go_simp
      exact hK.out _ _ ⟨_, rfl, rows_new 1 intCell intCell_len wx [0] _ _ rfl⟩ (hS.alloc hS.size _) ((Below.refl _ _).alloc (Nat.le_refl _) _)
    refine StepsI.cons (fun vals wx hS hd K hK => ?_) ?_
    · simp only [fillA, Act.put, List.setIfInBounds_toArray, List.set_cons_zero, List.set_cons_succ] at hK ⊢
      obtain ⟨g1, h1, p1⟩ := hd 6 (some 57) (by decide) (by kernel_rfl)
      simp only [h1] at hK ⊢
      go_simp
      exact hK.out _ _ ⟨g1, rfl, p1⟩ hS (Below.refl _ _)
    refine StepsI.cons (fun vals wx hS hd K hK => ?_) ?_
    · simp only [fillA, Act.put, List.setIfInBounds_toArray, List.set_cons_zero, List.set_cons_succ] at hK ⊢
      obtain ⟨g1, h1, p1⟩ := hd 7 (some 58) (by decide) (by kernel_rfl)
      simp only [h1] at hK ⊢
      go_simp
      exact hK.out _ _ ⟨g1, rfl, p1⟩ hS (Below.refl _ _)
    refine StepsI.cons (fun vals wx hS hd K hK => ?_) ?_
    · simp only [fillA, Act.put, List.setIfInBounds_toArray, List.set_cons_zero, List.set_cons_succ] at hK ⊢
      go_simp
      exact hK.out _ _ ⟨_, rfl, rows_new 1 intCell intCell_len wx [2147483648] _ _ rfl⟩ (hS.alloc hS.size _) ((Below.refl _ _).alloc (Nat.le_refl _) _)
    refine StepsI.cons (fun vals wx hS hd K hK => ?_) ?_
    · simp only [fillA, Act.put, List.setIfInBounds_toArray, List.set_cons_zero, List.set_cons_succ] at hK ⊢
      obtain ⟨g1, h1, p1⟩ := hd 9 (some 60) (by decide) (by kernel_rfl)
      simp only [h1] at hK ⊢
      go_simp
      exact hK.out _ _ ⟨g1, rfl, p1⟩ hS (Below.refl _ _)
    refine StepsI.cons (fun vals wx hS hd K hK => ?_) ?_
    · simp only [fillA, Act.put, List.setIfInBounds_toArray, List.set_cons_zero, List.set_cons_succ] at hK ⊢
      obtain ⟨g1, h1, p1⟩ := hd 10 (some 61) (by decide) (by kernel_rfl)
      simp only [h1] at hK ⊢
      go_simp
      exact hK.out _ _ ⟨g1, rfl, p1⟩ hS (Below.refl _ _)
    refine StepsI.cons (fun vals wx hS hd K hK => ?_) ?_
    · simp only [fillA, Act.put, List.setIfInBounds_toArray, List.set_cons_zero, List.set_cons_succ] at hK ⊢
      have hm := HmD.out wx
      have hp := HpD.out wx
      have hn := HD.out
      go_simp
      exact hK.out _ _ ⟨_, 256, rfl, hn.symm, hp⟩ (hS.alloc hS.size _) ((Below.refl _ _).alloc (Nat.le_refl _) _)
    refine StepsI.cons (fun vals wx hS hd K hK => ?_) ?_
    · simp only [fillA, Act.put, List.setIfInBounds_toArray, List.set_cons_zero, List.set_cons_succ] at hK ⊢
      obtain ⟨g1, n1, h1, hn1, p1⟩ := hd 12 (some 63) (by decide) (by kernel_rfl)
      have Hn1 := Lib.hid hn1
      clear hn1
      simp only [h1] at hK ⊢
      go_simp
      exact hK.out _ _ ⟨g1, n1, rfl, Hn1.out, p1⟩ hS (Below.refl _ _)
    refine StepsI.cons (fun vals wx hS hd K hK => ?_) ?_
    · simp only [fillA, Act.put, List.setIfInBounds_toArray, List.set_cons_zero, List.set_cons_succ] at hK ⊢
      have hm := HmZ.out wx
      have hp := HpZ.out wx
      have hn := HZ.out
      go_simp
      exact hK.out _ _ ⟨_, 65537, rfl, hn.symm, hp⟩ (hS.alloc hS.size _) ((Below.refl _ _).alloc (Nat.le_refl _) _)
    refine StepsI.cons (fun vals wx hS hd K hK => ?_) ?_
    · simp only [fillA, Act.put, List.setIfInBounds_toArray, List.set_cons_zero, List.set_cons_succ] at hK ⊢
      obtain ⟨g1, n1, h1, hn1, p1⟩ := hd 14 (some 65) (by decide) (by kernel_rfl)
      have hrun := DrawsAt.says p1 hn1 (fun h => by cases h) (c := n1) wx (Below.refl _ _)
      clear hn1
      simp only [h1] at hK ⊢
      go_simp
      exact hK.out _ _ rfl hS (Below.refl _ _)
    refine StepsI.cons (fun vals wx hS hd K hK => ?_) ?_
    · simp only [fillA, Act.put, List.setIfInBounds_toArray, List.set_cons_zero, List.set_cons_succ] at hK ⊢
      have h1 : vals 15 = S Z := hd 15 (some 66) (by decide) (by kernel_rfl)
      simp only [h1] at hK ⊢
      go_simp
      exact hK.out _ _ rfl hS (Below.refl _ _)
    refine StepsI.cons (fun vals wx hS hd K hK => ?_) ?_
    · simp only [fillA, Act.put, List.setIfInBounds_toArray, List.set_cons_zero, List.set_cons_succ] at hK ⊢
      obtain ⟨g5, h5, p5⟩ := hd 8 (some 59) (by decide) (by kernel_rfl)
      obtain ⟨g6, h6, p6⟩ := hd 11 (some 62) (by decide) (by kernel_rfl)
      obtain ⟨g7, n7, h7, hn7, p7⟩ := hd 13 (some 64) (by decide) (by kernel_rfl)
      subst hn7
      have h8 : vals 16 = .agg #[.int .u8 1, .int .u64 0, S Z, .slice none 0 0, .int .i64 0, .slice none 0 0, .slice none 0 0] := hd 16 (some 67) (by decide) (by kernel_rfl)
      simp only [h5, h6, h7, h8] at hK ⊢
      go_simp
      exact hK.out _ _ ⟨_, g5, g6, g7, rfl, rows_new 7 acCells acCells_len wx (badR D Z g5 g6 g7) _ _ rfl, RowsAt.up p5 ((Below.refl _ _).alloc (Nat.le_refl _) _), RowsAt.up p6 ((Below.refl _ _).alloc (Nat.le_refl _) _), p7.up ((Below.refl _ _).alloc (Nat.le_refl _) _)⟩ (hS.alloc hS.size _) ((Below.refl _ _).alloc (Nat.le_refl _) _)
    refine StepsI.cons (fun vals wx hS hd K hK => ?_) ?_
    · simp only [fillA, Act.put, List.setIfInBounds_toArray, List.set_cons_zero, List.set_cons_succ] at hK ⊢
      obtain ⟨g, g5, g6, g7, h1, p1⟩ := hd 17 (some 68) (by decide) (by kernel_rfl)
      simp only [h1] at hK ⊢
      go_simp
      exact hK.out _ _ ⟨g, g5, g6, g7, rfl, p1⟩ hS (Below.refl _ _)
    exact StepsI.nil
  · intro vals wx hS hR
    obtain ⟨g, g5, g6, g7, hg, p1, p2, p3, p4⟩ : ∃ g g5 g6 g7, vals 18 = .slice (some ⟨g, 0, none⟩) 9 9 ∧ RowsAt 7 acCells wx (some ⟨g, 0, none⟩) (badR D Z g5 g6 g7) ∧ IntsAt wx (some ⟨g5, 0, none⟩) [0] ∧ IntsAt wx (some ⟨g6, 0, none⟩) [2147483648] ∧ DrawsAt wx (some ⟨g7, 0, none⟩) D := hR (18, some 8) (by decide)
    refine wpAnyH_done (by kernel_rfl) ?_ _
    simp only [fillA, Act.put, List.setIfInBounds_toArray, List.set_cons_zero, List.set_cons_succ, hg]
    clear hR hg
    generalize vals 6 = x6
    generalize vals 7 = x7
    generalize vals 8 = x8
    generalize vals 9 = x9
    generalize vals 10 = x10
    generalize vals 11 = x11
    generalize vals 12 = x12
    generalize vals 13 = x13
    generalize vals 14 = x14
    generalize vals 15 = x15
    generalize vals 16 = x16
    generalize vals 17 = x17
    clear vals
    have hatB := bad_at p1 p2 p3 p4 HD.out HZ.out
    have Hno := Lib.hid (bad_no D Z HD.out HZ.out)
    have hb0x := Chain.up hb09 hS
    have hown2x := hown29.up hS
    have hat5x := hat59.up hS
    have hat9x := hat9.up hS
    clear hS p1 p2 p3 p4 HmD HpD HmZ HpZ hHeld hb09 hown29 hat59 hat9
    have HnoR := Lib.hid (show ∀ r ∈ badR D Z g5 g6 g7, P.rightB r.x = false from fun r hr => (Hno.out r.x (by rw [← badR_x D Z g5 g6 g7]; exact List.mem_map_of_mem hr)).1)
    have HlenR := Lib.hid (show (badR D Z g5 g6 g7).length = 9 from rfl)
    clear Hno HD HZ
    generalize badR D Z g5 g6 g7 = RS at *
    clear hcap4
    go_wp2_with fail
    go_loopw [9] (fun i wr => ∃ k : Nat, k ≤ 9 ∧ i = .int .i64 k ∧ Below wx.heap.size wx wr) (fun i _ => 9 - (intOf i).toNat)
    case atStart => exact ⟨0, by omega, rfl, Below.refl _ _⟩
    case round =>
      obtain ⟨k, hk, rfl, hb⟩ := hrel
      by_cases hlt : k < 9
      · have hltl : k < RS.length := by rw [HlenR.out]; exact hlt
        have hki : (k : Int) < 9 := by omega
        have hatr := hatB.up hb
        obtain ⟨bb, o, hbo, hbb, c0, c1, c2, c3, c4', c5', c6'⟩ := act_at hatr.rows k hltl
        obtain ⟨rfl, rfl⟩ : g = bb ∧ 0 = o := by injection hbo with h; injection h with h1 h2; exact ⟨h1, h2⟩
        clear hbo
        have hac := hatr.acts _ (List.getElem_mem hltl)
        have hty := hatr.ty _ (List.getElem_mem hltl)
        have hnr := Lib.hid (HnoR.out _ (List.getElem_mem hltl))
        clear hatr
        generalize RS[k] = r at *
        rw [Nat.zero_add] at c0 c1 c2 c3 c4' c5' c6'
        have Hac := Lib.hid hac
        have Hty := Lib.hid hty
        clear hac hty
        have hcr := Hac.out.2.2
        have HR := Lib.hid (fun wx (hp : CrAt wx r.a r.b r.x.cr) => right_any r.x r.da r.a r.b r.x.draws.length r.dc r.x.cr.keep.length r.k r.x.cr.spoil.length r.m rfl rfl rfl wx hp)
        rw [hnr.out] at HR
        go_wp2_with (first
          | (go_at_call 9; (with_reducible refine (encode_any (some ⟨wr.heap.size, 0, none⟩) [flushR, r] 2 2 _ rfl ?h1 ?h3 ?h2).mono ?_); (case h1 => omega); (case h3 => exact two_at Hac.out Hty.out _ rfl); (case h2 => exact two_small hnr.out); rintro e w10 ⟨v10, rfl, hown10, hb10⟩; (rw [two_not hnr.out] at hown10 ⊢); obtain ⟨a10, c10, hv10⟩ := Own.isS hown10; (subst hv10); have hb10' := Chain.up ((Below.refl wr.heap.size wr).alloc (Nat.le_refl _) _) hb10; have d0 := cell_up hb10' c0; have d1 := cell_up hb10' c1; have d2 := cell_up hb10' c2; have d3 := cell_up hb10' c3; have d4 := cell_up hb10' c4'; have d5 := cell_up hb10' c5'; have d6 := cell_up hb10' c6')
          | (go_at_call 12; (with_reducible refine (HR.out _ (hcr.up hb10')).mono ?_); rintro e w11 ⟨rfl, hb11⟩))
        go_roundw
        case rel => exact ⟨k + 1, by omega, by go_num, Chain.up (Chain.up hb hb10') hb11⟩
        case measure => simp [intOf]; omega
      · obtain rfl : k = 9 := by omega
        clear hlt hk hatB
        have hb0r := Chain.up hb0x hb
        have hown2r := hown2x.up hb
        have hat5r := hat5x.up hb
        have hat9r := hat9x.up hb
        clear hb hb0x hown2x hat5x hat9x HlenR HnoR
        obtain ⟨w12, rfl⟩ : ∃ w12 : World, w12 = wr := ⟨_, rfl⟩
        have hmk : (Instr.makeSlice 36 (.int .i64 4097) (.int .i64 4097)).run Tryd.prog w12 = .ok (.slice (some ⟨w12.heap.size, 0, none⟩) 4097 4097) (w12.alloc (.cells ((layA 4097 0).flatMap acCells).toArray 32)) := by
          have h := run_make_S 36 32 _ 7 112 Tryd.underlying36 infoAct 4097 (by omega) (by omega) w12
          have e : madeCells (Value.agg #[.int .u8 0, .int .u64 0, .string ByteArray.empty, .slice none 0 0, .int .i64 0, .slice none 0 0, .slice none 0 0]).cells (4097 * 7) = ((layA 4097 0).flatMap acCells).toArray := made_flat acCells_len (by omega) zeroR 4097
          rw [e] at h
          exact h
        have hbk0 := Bx.fresh w12 32 ((layA 4097 0).flatMap acCells).toArray
        have ha0 := (Below.refl w12.heap.size w12).alloc (Nat.le_refl _) (.cells ((layA 4097 0).flatMap acCells).toArray 32)
        have Hln := Lib.hid (layA_len 4097)
        have Hnx := Lib.hid (layA_next 4097)
        have Hat := Lib.hid (layA_at 4097)
        have Hfull := Lib.hid (layA_full 4097)
        generalize layA 4097 = lay at *
        go_wp2_with fail
        go_loopw [13] (fun i wr => ∃ k : Nat, k ≤ 4097 ∧ i = .int .i64 k ∧ Bx wr w12.heap.size 32 ((lay k).flatMap acCells).toArray ∧ Below w12.heap.size w12 wr) (fun i _ => 4097 - (intOf i).toNat)
        case atStart => exact ⟨0, by omega, rfl, hbk0, ha0⟩
        case round =>
          clear hbk0 ha0 hmk
          obtain ⟨k, hk, rfl, hbk, hb⟩ := hrel
          by_cases hlt : k < 4097
          · have hki : (k : Int) < 4097 := by omega
            have Hset := Lib.hid (Hnx.out k hlt)
            have hput := hbk.put0 k zeroR flushR (Hat.out k hlt) (.int .u8 3) rfl
            rw [Hset.out] at hput
            have hfz := hbk.frozen (k * 7)
            have hcl : ∃ u, wr.cell? ⟨w12.heap.size, k * 7, none⟩ = some u := by
              rw [hbk.cell]
              have hsz : ((lay k).flatMap acCells).toArray.size = 4097 * 7 := by rw [List.size_toArray, flat_len 7 acCells acCells_len, Hln.out k hk]
              exact ⟨_, Array.getElem?_eq_getElem (by rw [hsz]; omega)⟩
            obtain ⟨u, hu⟩ := hcl
            have hbs := hb.setCell (p := ⟨w12.heap.size, k * 7, none⟩) (Nat.le_refl _) (.int .u8 3)
            have Hput := Lib.hid hput
            have Hbs := Lib.hid hbs
            clear hput hbs
            go_wp2_with fail
            go_roundw
            case rel => exact ⟨k + 1, by omega, by go_num, Hput.out, Hbs.out⟩
            case measure => simp [intOf]; omega
          · obtain rfl : k = 4097 := by omega
            clear hlt hk
            rw [Hfull.out] at hbk
            have hT := rows_bx acCells_len hbk
            have hT1 := rows_take hT 4096
            rw [show (List.replicate 4097 flushR).take 4096 = List.replicate 4096 flushR by rw [List.take_replicate]; rfl] at hT1
            have hown2s := hown2r.up hb
            have hat5s := hat5r.up hb
            have hat9s := hat9r.up hb
            have hb0s := Chain.up hb0r hb
            clear hbk hb hown2r hat5r hat9r hb0r Hln Hnx Hat Hfull
            have HT := Lib.hid hT
            have HT1 := Lib.hid hT1
            clear hT hT1
            go_wp2_with fail
            (with_reducible refine (enc_flush 4096 (Nat.le_refl _) _ _ _ HT1.out).mono ?_)
            rintro e w13 ⟨v13, d, rfl, hown13, Hd, Hl, hb13⟩
            obtain ⟨a13, c13, hv13⟩ := Own.isS hown13
            subst hv13
            rw [Hl.out]
            have HT2 := Lib.hid (RowsAt.up HT.out hb13)
            go_wp2_with fail
            (with_reducible refine (enc_many 4097 (by omega) (by omega) _ _ _ HT2.out).mono ?_)
            rintro e w14 ⟨v14, rfl, hb14⟩
            go_wp2_with fail
            (with_reducible refine (enc_none _).mono ?_)
            rintro e w15 ⟨a15, c15, rfl, hb15⟩
            have hb45 := Chain.up hb14 hb15
            have hb35 := Chain.up hb13 hb45
            have hown2t := hown2s.up hb35
            have hzr : wr.heap.size ≤ w15.heap.size := hb35.size
            have hz0 : w.heap.size ≤ wr.heap.size := hb0s.size
            have hat5t := hat5s.up hb35
            have hat9t := hat9s.up hb35
            have hb0t := Chain.up hb0s hb35
            have hown13t := hown13.up hb45
            have Hs2 := Lib.hid (show Says w15 v2 [6, 3, 1, 1, 7, 1, 2, 0, 0, 0, 255] from hown2t.says)
            clear HT HT1 HT2 hown13 hb13 hb14 hb15 hb45 hb35 hown2s hat5s hat9s hb0s hown2t
            go_wp2_with (refine wpList_strS (by rfl) Hs2.out ?_)
            (with_reducible refine (some_any _).mono ?_)
            rintro e w16 ⟨g16, h16, rfl, hat16, hb16⟩
            go_wp2_with fail
            (with_reducible refine (same_any a5 (some ⟨h16, 0, none⟩) c5 4 3 3 ls ((someR g16).take 3) w16 ?s1 ?s2 ?s3 ?s3 (hat5t.up hb16) (hat16.takeK 3) hok5 ?s4).mono ?_)
            case s1 => exact (len_of_map Hld.out).symm
            case s2 => rfl
            case s3 => omega
            case s4 => exact ok_of_map (l := someL.take 3) rfl short_ok
            rintro e w17 ⟨⟨b17, rfl, hb17e⟩, hb17⟩
            obtain rfl : b17 = true := hb17e.2 (Hld.out.trans rfl)
            clear hb17e
            have hbt7 := Chain.up hb16 hb17
            go_wp2_with fail
            (with_reducible refine (some_any _).mono ?_)
            rintro e w18 ⟨g18, h18, rfl, hat18, hb18⟩
            have hbt8 := Chain.up hbt7 hb18
            go_wp2_with fail
            (with_reducible refine (same_any a9 (some ⟨h18, 0, none⟩) c9 4 4 4 ms (someR g18) w18 ?r1 rfl ?r3 ?r3 (hat9t.up hbt8) hat18 hok9 ?r4).mono ?_)
            case r1 => exact (len_of_map Hmd.out).symm
            case r3 => omega
            case r4 => exact ok_of_map (someR_x g18) someL_ok
            rintro e w19 ⟨⟨b19, rfl, hb19e⟩, hb19⟩
            obtain rfl : b19 = true := hb19e.2 (Hmd.out.trans (someR_x g18).symm)
            clear hb19e
            have hbt9 := Chain.up hbt8 hb19
            have hown13u := hown13t.up hbt9
            have hb0u := Chain.up hb0t hbt9
            have hzr9 : wr.heap.size ≤ w19.heap.size := Nat.le_trans hzr hbt9.size
            clear hat5t hat9t hb0t hown13t hbt9 hbt8 hbt7 hb16 hb17 hb18 hb19 hat16 hat18 hok5 hok9 Hld Hmd
            have hr13 := ((own_rows.1 hown13u).alloc (.cells #[.int .u8 3] 5))
            have hr3 := rows_new 1 byC byC_len w19 [3] #[.int .u8 3] 5 rfl
            have hA19 := (Below.refl w19.heap.size w19).alloc (Nat.le_refl _) (.cells #[.int .u8 3] 5)
            rw [Hl.out] at hr13
            have hzrA : wr.heap.size ≤ (w19.alloc (.cells #[.int .u8 3] 5)).heap.size := Nat.le_trans hzr9 hA19.size
            have hb0A := hb0u.alloc hb0u.size (.cells #[.int .u8 3] 5)
            have hread := Lib.hid (show P.rdActs 4096 (d ++ [3]) = List.replicate 4096 flushA by rw [Hd.out]; exact flushes_read 4096)
            go_wp2_with (at_builtin; (refine wpList_unguardA (by rfl) ?_); (refine wpList_appB (by rfl) _ _ (by rfl) wr.heap.size _ d [3] (by rfl) hr13 ?q1 _ _ _ (by rfl) ?q2 hr3 hzrA ?_); (case q1 => rw [Hl.out]; decide); (case q2 => rfl); intro v20 w20 hown20 hb20 hkt20; have hb0v := hb0A.trans (hb20.mono hz0))
            (with_reducible refine (decode_any v20 (d ++ [3]) w20 ?u1 (Own.says (own_rows.2 hown20))).mono ?_)
            case u1 => rw [List.length_append, Hl.out]; decide
            rintro e w21 ⟨fs, v21, rfl, hfd, hown21, hacs21, hb21⟩
            rw [hread.out] at hfd
            have hlen21 : fs.length = 4096 := by rw [len_of_map hfd]; exact List.length_replicate
            obtain ⟨a21, c21, hv21, _, _⟩ := hown21.is acCells_len
            subst hv21
            rw [hlen21]
            have hb0w := Chain.up hb0v hb21
            clear hfd hown21 hacs21 hlen21 hown20 hkt20 hr13 hr3 hA19 hown13u
            go_wp2_with (go_at_call 14; (with_reducible refine (awake_any _).mono ?_); rintro e w22 ⟨rfl, hb22⟩)
            go_ret
            exact ⟨rfl, Chain.up hb0w hb22⟩
end Go.Proofs.YtnflbgindcejjaaDoor
