/- Compare of fractions in lowest terms. -/
import Derived.Test.YtckfdhnimmaeiaaGreatDoorZf
import Derived.Test.YtckfdhnimmaeiaaGreatDoorComp
namespace Go.Proofs.YtckfdhnimmaeiaaGreatDoor.Pure
open Go.RowKit Go.Proofs.YtckfdhnimmaeiaaGreatDoor.Pr Go.Proofs.YtckfdhnimmaeiaaGreatDoorW.PrintWords Go.Proofs.YtckfdhnimmaeiaaGreatDoorW.PrintLast

/-- How two fractions compare. -/
def qcmp (x y : Q) : Int := if x.1 * (y.2 : Int) = y.1 * (x.2 : Int) then 0 else if x.1 * (y.2 : Int) < y.1 * (x.2 : Int) then -1 else 1
theorem compare_num (x y : Q) (hx : qLow x) (hy : qLow y) (fx : Fit x) (fy : Fit y) : ∃ K, ∀ k, K ≤ k → exact_Compare.f k (nt x) (dt x) (nt y) (dt y) = some (qcmp x y, 0) := by
  obtain ⟨K1, h1⟩ := both_num x y hx hy fx fy
  refine ⟨K1 + 20000000, fun k hk => ?_⟩
  obtain ⟨m, N, D, m', N', D', e1, r, r'⟩ := h1 k (by omega)
  obtain ⟨M, P, R, e, s1, _, s3, _, _, _⟩ := sum_f m (!m') N D N' D' r.hN r.hD r'.hN r'.hD (le1000 r.lN) (le1000 r.lD) (le1000 r'.lN) (le1000 r'.lD) k (by omega)
  have hs : sv M (V P) = x.1 * (y.2 : Int) - y.1 * (x.2 : Int) := by
    rw [s1, sv_not, rd_sv r, rd_sv r', r.d, r'.d, Int.neg_mul]; rfl
  unfold exact_Compare.f
  rw [e1, Option.bind_some, if_pos rfl]
  simp only
  rw [e, Option.bind_some, zero_f P s3, Option.bind_some]
  simp only
  unfold qcmp
  by_cases hv : V P = 0
  · rw [if_pos (decide_eq_true hv), if_pos]
    rw [hv] at hs
    have : sv M 0 = 0 := by cases M <;> rfl
    omega
  · rw [if_neg (by simp [hv])]
    cases M with
    | true =>
      have : sv true (V P) = -(V P : Int) := rfl
      rw [if_pos rfl, if_neg (by omega), if_pos (by omega)]
    | false =>
      have : sv false (V P) = (V P : Int) := rfl
      rw [if_neg (by decide), if_neg (by omega), if_neg (by omega)]

theorem qcmp_swap (x y : Q) : qcmp y x = -(qcmp x y) := by
  unfold qcmp
  by_cases h : x.1 * (y.2 : Int) = y.1 * (x.2 : Int)
  · rw [if_pos h, if_pos h.symm]; rfl
  · rw [if_neg h, if_neg (fun e => h e.symm)]
    by_cases h2 : x.1 * (y.2 : Int) < y.1 * (x.2 : Int)
    · rw [if_pos h2, if_neg (by omega)]; rfl
    · rw [if_neg h2, if_pos (by omega)]
theorem qcmp_vals (x y : Q) : qcmp x y = -1 ∨ qcmp x y = 0 ∨ qcmp x y = 1 := by
  unfold qcmp
  split
  · exact Or.inr (Or.inl rfl)
  · split
    · exact Or.inl rfl
    · exact Or.inr (Or.inr rfl)
theorem qcmp_zero {x y : Q} (hx : qLow x) (hy : qLow y) : qcmp x y = 0 ↔ x = y := by
  unfold qcmp
  constructor
  · intro h
    by_cases e : x.1 * (y.2 : Int) = y.1 * (x.2 : Int)
    · exact low_eq hx hy e
    · rw [if_neg e] at h
      split at h <;> cases h
  · rintro rfl
    rw [if_pos rfl]
theorem qcmp_neg (x y : Q) : qcmp x y < 0 ↔ x.1 * (y.2 : Int) < y.1 * (x.2 : Int) := by
  unfold qcmp
  by_cases e : x.1 * (y.2 : Int) = y.1 * (x.2 : Int)
  · rw [if_pos e]; omega
  · rw [if_neg e]
    split <;> omega
end Go.Proofs.YtckfdhnimmaeiaaGreatDoor.Pure
