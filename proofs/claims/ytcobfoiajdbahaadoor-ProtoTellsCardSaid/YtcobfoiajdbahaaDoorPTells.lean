/- Plain law: what is heard of what is told; how long that is. -/
import Derived.Test.YtcobfoiajdbahaaDoorPQ
namespace Go.Proofs.YtcobfoiajdbahaaDoor.P
set_option linter.unusedVariables false
set_option linter.unusedSimpArgs false
def toldE (op : Nat) (a : An) (e : Int) : An := if e = 0 then toldA op a else noAn
theorem row_leT (n : Nat) : (row n).length ≤ 9 := by rw [row_length]; have := behind_le n; omega
theorem adX_leT (a : Ad) : (adX a).length ≤ 17 := by
  unfold adX adB
  split
  · split <;> simp [be_length]
  · simp
theorem pxX_leT (p : Px) : (pxX p).length ≤ 18 := by unfold pxX; have := adX_leT p.a; simp; omega
theorem txB_leT (s : List UInt8) : (txB s).length ≤ 9 + s.length := by unfold txB; have := row_leT s.length; rw [List.length_append]; omega
theorem leB_leT (o : List UInt8) (t : Nat) : (leB o t).length ≤ 18 + o.length := by unfold leB; have := row_leT t; have := txB_leT o; rw [List.length_append]; omega
theorem flat_leT {α : Type} (f : α → List UInt8) (b : Nat) : ∀ l : List α, (∀ y ∈ l, (f y).length ≤ b) → (l.flatMap f).length ≤ l.length * b
  | [], _ => by simp
  | y :: l, h => by
    have h1 := h y (by simp)
    have h2 := flat_leT f b l (fun z hz => h z (by simp [hz]))
    rw [List.flatMap_cons, List.length_append, List.length_cons, Nat.succ_mul]
    omega
theorem tailB_leT (op : Nat) (a : An) (ho : a.owner.length ≤ 2000) (h1 : a.rows.length ≤ 40) (h2 : a.events.length ≤ 40) (h3 : a.pools.length ≤ 40) (hr : ∀ y ∈ a.rows, y.owner.length ≤ 2000) (he : ∀ y ∈ a.events, y.owner.length ≤ 2000) : (tailB op a).length ≤ 200000 := by
  have l1 : (a.rows.flatMap rwB).length ≤ a.rows.length * 2035 := flat_leT rwB 2035 _ (fun y hy => by
    unfold rwB
    have := adX_leT y.a; have := leB_leT y.owner y.til; have := hr y hy
    rw [List.length_append]; omega)
  have l2 : (a.events.flatMap evB).length ≤ a.events.length * 2030 := flat_leT evB 2030 _ (fun y hy => by
    unfold evB
    have := txB_leT y.owner; have := row_leT y.at'; have := row_leT y.til; have := he y hy
    simp only [List.length_cons, List.length_append]; omega)
  have l3 : (a.pools.flatMap pxX).length ≤ a.pools.length * 18 := flat_leT pxX 18 _ (fun y _ => pxX_leT y)
  unfold tailB
  split
  · have := adX_leT a.a; have := leB_leT a.owner a.til
    rw [List.length_append]; omega
  split
  · unfold lkB
    have := pxX_leT a.pool; have := leB_leT a.owner a.til
    simp only [List.length_cons, List.length_append]
    split <;> split <;> (try simp only [List.length_nil]) <;> omega
  split
  · rw [List.length_cons]; omega
  split
  · rw [List.length_cons]; omega
  split
  · rw [List.length_cons]; omega
  split
  · have := row_leT a.clock; omega
  · simp
theorem tellB_leT (op cl nu : Nat) (a : An) (e : Int) (ho : a.owner.length ≤ 2000) (h1 : a.rows.length ≤ 40) (h2 : a.events.length ≤ 40) (h3 : a.pools.length ≤ 40) (hr : ∀ y ∈ a.rows, y.owner.length ≤ 2000) (he : ∀ y ∈ a.events, y.owner.length ≤ 2000) : (tellB op cl nu a e).length ≤ 1000000 := by
  have := tailB_leT op a ho h1 h2 h3 hr he
  unfold tellB headB
  simp only [List.length_cons, List.length_append, be_length]
  split <;> (try simp only [List.length_nil]) <;> omega
/-- What is heard of what is told. -/
theorem hear_told (op cl nu : Nat) (a : An) (m : Nat) (h1 : op < 256) (h2 : cl < 256) (h3 : nu < 18446744073709551616) (ht : tyAn a) (he : m ≤ 255) (hm : (decide (m ≠ 0) || mayA op a) = true) :
    hearOk (tellB op cl nu a (m : Int)) = (decide (m ≠ 0) || knownB op) ∧ ((decide (m ≠ 0) || knownB op) = true → hearC (tellB op cl nu a (m : Int)) = headC (op, cl, nu) ∧ hearA (tellB op cl nu a (m : Int)) = toldE op a (m : Int) ∧ hearN (tellB op cl nu a (m : Int)) = m) := by
  have h := hear_app op cl nu a (m : Int) [] h1 h2 h3 ht ⟨by omega, by omega⟩ (fun h0 => by
    rw [decide_eq_false (by omega), Bool.false_or] at hm
    exact hm)
  rw [List.append_nil] at h
  obtain ⟨k1, k2, k3, k4⟩ := h
  have hk : hearOkE op (m : Int) = (decide (m ≠ 0) || knownB op) := by
    unfold hearOkE
    congr 1
    rw [decide_eq_decide]
    omega
  rw [hk] at k1 k4
  rw [decide_eq_true rfl, Bool.and_true] at k1
  refine ⟨k1, fun hh => ?_⟩
  have k4' := k4 hh
  unfold hearC hearA hearN
  rw [k1, hh, if_pos rfl, if_pos rfl, if_pos rfl, k2, k3, k4']
  exact ⟨rfl, rfl, by omega⟩
theorem toldE_lists (op : Nat) (a : An) (e : Int) (h1 : a.rows.length ≤ 40) (h2 : a.events.length ≤ 40) (h3 : a.pools.length ≤ 40) : (toldE op a e).rows.length ≤ 40 ∧ (toldE op a e).events.length ≤ 40 ∧ (toldE op a e).pools.length ≤ 40 := by
  unfold toldE
  split
  · unfold toldA
    (repeat' split) <;> simp [noAn, *]
  · simp [noAn]
end Go.Proofs.YtcobfoiajdbahaaDoor.P
