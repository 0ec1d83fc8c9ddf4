/- The lengths of the codes, in plain Lean: what squash.lengthsOf computes. -/
import Derived.Test.YtefhcgnamfnkbaaDoorSba
namespace Go.Proofs.YtefhcgnamfnkbaaDoor.Sb
/-- Each two neighbours as one: their weights' sum, their symbols. -/
def pairs : List (Nat × List Nat) → List (Nat × List Nat)
  | a :: b :: t => (a.1 + b.1, a.2 ++ b.2) :: pairs t
  | [_] => []
  | [] => []
theorem pairs_length : ∀ l : List (Nat × List Nat), (pairs l).length = l.length / 2
  | a :: b :: t => by simp only [pairs, List.length_cons, pairs_length t]; omega
  | [_] => by simp [pairs]
  | [] => rfl
theorem pairs_at : ∀ (l : List (Nat × List Nat)) (q : Nat) (a b : Nat × List Nat), l[2 * q]? = some a → l[2 * q + 1]? = some b → (pairs l)[q]? = some (a.1 + b.1, a.2 ++ b.2)
  | x :: y :: t, 0, a, b, h1, h2 => by
    simp at h1 h2
    subst h1 h2
    rfl
  | x :: y :: t, q + 1, a, b, h1, h2 => by
    show (pairs t)[q]? = _
    refine pairs_at t q a b ?_ ?_
    · rw [show 2 * (q + 1) = 2 * q + 1 + 1 from by omega] at h1
      simpa using h1
    · rw [show 2 * (q + 1) + 1 = 2 * q + 1 + 1 + 1 from by omega] at h2
      simpa using h2
  | [x], q, a, b, h1, h2 => by
    rw [List.getElem?_eq_none (by simp)] at h2
    cases h2
  | [], q, a, b, h1, h2 => by simp at h1
def rkB (x : (Nat × List Nat) × Nat) : Int := (x.1.1 : Int) * 1048576 + (x.2 : Int)
/-- Sorted by weight; equals stay in their order. -/
def sortB (bs : List (Nat × List Nat)) : List (Nat × List Nat) := (sortL rkB bs.zipIdx).map (·.1)
def leaves (us : List (Nat × Nat)) : List (Nat × List Nat) := us.map fun u => (u.2, [u.1])
def level (us : List (Nat × Nat)) : Nat → List (Nat × List Nat)
  | 0 => []
  | r + 1 => sortB (pairs (level us r) ++ leaves us)
theorem sortB_length (bs : List (Nat × List Nat)) : (sortB bs).length = bs.length := by
  unfold sortB
  rw [List.length_map, (sortL_perm rkB bs.zipIdx).length_eq, List.length_zipIdx]
theorem sortB_perm (bs : List (Nat × List Nat)) : (sortB bs).Perm bs := by
  unfold sortB
  have h := (sortL_perm rkB bs.zipIdx).map (·.1)
  rwa [List.zipIdx_map_fst] at h
theorem level_length (us : List (Nat × Nat)) (r : Nat) : (level us (r + 1)).length = (level us r).length / 2 + us.length := by
  show (sortB _).length = _
  rw [sortB_length, List.length_append, pairs_length]
  simp [leaves]
/-- The symbols below i that occur, with how often. -/
def used (ys : List Nat) (i : Nat) : List (Nat × Nat) := ((List.range i).filter (fun j => decide (0 < ys.count j))).map (fun j => (j, ys.count j))
theorem used_yes {ys : List Nat} {i : Nat} (h : 0 < ys.count i) : used ys (i + 1) = used ys i ++ [(i, ys.count i)] := by
  have e : [i].filter (fun j => decide (0 < ys.count j)) = [i] := List.filter_cons_of_pos (p := fun j => decide (0 < ys.count j)) (decide_eq_true h)
  unfold used
  rw [List.range_succ, List.filter_append, List.map_append, e]
  rfl
theorem used_no {ys : List Nat} {i : Nat} (h : ¬ 0 < ys.count i) : used ys (i + 1) = used ys i := by
  have e : [i].filter (fun j => decide (0 < ys.count j)) = [] := List.filter_cons_of_neg (p := fun j => decide (0 < ys.count j)) (by rw [decide_eq_true_eq]; exact h)
  unfold used
  rw [List.range_succ, List.filter_append, List.map_append, e]
  exact List.append_nil _
theorem used_length (ys : List Nat) (i : Nat) : (used ys i).length ≤ i := by
  unfold used
  rw [List.length_map]
  exact Nat.le_trans (List.length_filter_le _ _) (by simp)
/-- What lengthsOf gives to symbol j. -/
def lensOf (us : List (Nat × Nat)) (j : Nat) : Nat :=
  if us.length = 1 then (if (us.head?.map (·.1)) = some j then 1 else 0) else (((level us 15).take (2 * us.length - 2)).flatMap (·.2)).count j
end Go.Proofs.YtefhcgnamfnkbaaDoor.Sb
