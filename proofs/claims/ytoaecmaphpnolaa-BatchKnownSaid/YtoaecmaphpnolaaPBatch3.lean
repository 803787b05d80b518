/- Plain law: no batch's bytes are the beginning of another one's. -/
import Derived.Test.YtoaecmaphpnolaaPBatch
namespace Go.Proofs.Ytoaecmaphpnolaa.P

theorem enc_prefix {q q' : Nat} {l l' : List Op} {y : List UInt8} (h : chk q l = 0) (h' : chk q' l' = 0) (he : enc q l = enc q' l' ++ y) : q = q' ∧ l = l' ∧ y = [] := by
  obtain ⟨h1, h2, h3, h4, h5⟩ := chk_ok h
  obtain ⟨k1, k2, k3, k4, k5⟩ := chk_ok h'
  have e1 : enc q l = row q ++ (row l.length ++ opRows l) := enc_is q l
  have e2 : enc q' l' ++ y = row q' ++ (row l'.length ++ (opRows l' ++ y)) := by rw [enc_is]; simp
  have hh : row q ++ (row l.length ++ opRows l) = row q' ++ (row l'.length ++ (opRows l' ++ y)) := by rw [← e1, ← e2, he]
  obtain ⟨a1, a2, a3⟩ := read_row q (by omega) (row l.length ++ opRows l)
  obtain ⟨b1, b2, b3⟩ := read_row q' (by omega) (row l'.length ++ (opRows l' ++ y))
  have hq : q = q' := by rw [← a2, ← b2, hh]
  subst hq
  have hh2 := List.append_cancel_left hh
  obtain ⟨a1, a2, a3⟩ := read_row l.length (by omega) (opRows l)
  obtain ⟨b1, b2, b3⟩ := read_row l'.length (by omega) (opRows l' ++ y)
  have hn : l.length = l'.length := by rw [← a2, ← b2, hh2]
  rw [hn] at hh2
  have hh3 := List.append_cancel_left hh2
  have r1 := readOps_rows l [] (fun o ho => ⟨(h5 o ho).2.1, (h5 o ho).2.2.1, (h5 o ho).2.2.2⟩)
  have r2 := readOps_rows l' y (fun o ho => ⟨(k5 o ho).2.1, (k5 o ho).2.2.1, (k5 o ho).2.2.2⟩)
  rw [List.append_nil, hh3, hn, r2] at r1
  simp only [Option.some.injEq, Prod.mk.injEq] at r1
  refine ⟨rfl, r1.1.symm, ?_⟩
  rw [r1.1] at hh3
  exact (List.append_right_eq_self.1 hh3.symm)
theorem enc_pos (q : Nat) (l : List Op) : 1 ≤ (enc q l).length := by
  rw [enc_is, List.length_append, row_length]
  omega
theorem dec_cut {q : Nat} {l : List Op} (h : chk q l = 0) (m : Nat) (hm : m < (enc q l).length) : dec ((enc q l).take m) = none := by
  cases hd : dec ((enc q l).take m) with
  | none => rfl
  | some r =>
    obtain ⟨q', l'⟩ := r
    obtain ⟨h1, h2⟩ := dec_some hd
    have he : enc q l = enc q' l' ++ (enc q l).drop m := by rw [h2, List.take_append_drop]
    have := (enc_prefix h h1 he).2.2
    have h3 := congrArg List.length this
    rw [List.length_drop, List.length_nil] at h3
    omega
theorem dec_more {q : Nat} {l : List Op} (h : chk q l = 0) (x : List UInt8) (hx : x ≠ []) : dec (enc q l ++ x) = none := by
  cases hd : dec (enc q l ++ x) with
  | none => rfl
  | some r =>
    obtain ⟨q', l'⟩ := r
    obtain ⟨h1, h2⟩ := dec_some hd
    exact absurd (enc_prefix h1 h h2).2.2 hx
end Go.Proofs.Ytoaecmaphpnolaa.P
