/- Compare and Floor of fractions in lowest terms. -/
import Derived.Test.YtefhcgnamfnkbaaGreatDoorZf
import Derived.Test.YtefhcgnamfnkbaaGreatDoorComp
import Derived.Test.YtefhcgnamfnkbaaGreatDoorFloor
namespace Go.Proofs.YtefhcgnamfnkbaaGreatDoor.Pure
open Go.RowKit Go.Proofs.YtefhcgnamfnkbaaGreatDoor.Pr Go.Proofs.YtefhcgnamfnkbaaGreatDoorW.PrintWords Go.Proofs.YtefhcgnamfnkbaaGreatDoorW.PrintLast

/-- How two fractions compare. -/
def qcmp (x y : Q) : Int := if x.1 * (y.2 : Int) = y.1 * (x.2 : Int) then 0 else if x.1 * (y.2 : Int) < y.1 * (x.2 : Int) then -1 else 1
theorem compare_num (x y : Q) (hx : qLow x) (hy : qLow y) (fx : Fit x) (fy : Fit y) : ∃ K, ∀ k, K ≤ k → exact_Compare.f k (nt x) (dt x) (nt y) (dt y) = some (qcmp x y, 0) := by
  obtain ⟨K1, h1⟩ := both_num x y hx hy fx fy
  refine ⟨K1 + 20000000, fun k hk => ?_⟩
  obtain ⟨m, N, D, m', N', D', e1, r, r'⟩ := h1 k (by omega)
  obtain ⟨M, P, R, e, s1, _, s3, _, _, _⟩ := sum_f m (!m') N D N' D' r.hN r.hD r'.hN r'.hD (le1000 r.lN) (le1000 r.lD) (le1000 r'.lN) (le1000 r'.lD) k (by omega)
  have hs : sv M (V P) = x.1 * (y.2 : Int) - y.1 * (x.2 : Int) := by
    rw [s1, sv_not, rd_sv r, rd_sv r', r.d, r'.d, Int.neg_mul]; rfl
  unfold exact_Compare.f
  rw [e1, Option.bind_some, if_pos rfl]
  simp only
  rw [e, Option.bind_some, zero_f P s3, Option.bind_some]
  simp only
  unfold qcmp
  by_cases hv : V P = 0
  · rw [if_pos (decide_eq_true hv), if_pos]
    rw [hv] at hs
    have : sv M 0 = 0 := by cases M <;> rfl
    omega
  · rw [if_neg (by simp [hv])]
    cases M with
    | true =>
      have : sv true (V P) = -(V P : Int) := rfl
      rw [if_pos rfl, if_neg (by omega), if_pos (by omega)]
    | false =>
      have : sv false (V P) = (V P : Int) := rfl
      rw [if_neg (by decide), if_neg (by omega), if_neg (by omega)]

theorem floor_neg (n d : Nat) (hd : 0 < d) (h : n % d ≠ 0) : (-(n : Int)) / (d : Int) = -((n / d + 1 : Nat) : Int) := by
  refine ((Int.ediv_emod_unique (a := -(n : Int)) (b := (d : Int)) (r := (d : Int) - ((n % d : Nat) : Int)) (q := -((n / d + 1 : Nat) : Int)) (by omega)).2 ⟨?_, ?_, ?_⟩).1
  · have h1 := Nat.div_add_mod n d
    have h2 : (d : Int) * ((n / d : Nat) : Int) = ((d * (n / d) : Nat) : Int) := (Int.natCast_mul _ _).symm
    have h3 : (d : Int) * -((n / d + 1 : Nat) : Int) = -((d : Int) * ((n / d : Nat) : Int)) - (d : Int) := by
      rw [Int.natCast_add, Int.mul_neg, Int.mul_add, Int.neg_add]
      show _ + -((d : Int) * 1) = _
      rw [Int.mul_one]; rfl
    rw [h3, h2]
    omega
  · have := Nat.mod_lt n hd
    omega
  · omega
theorem floor_neg0 (n d : Nat) (hd : 0 < d) (h : n % d = 0) : (-(n : Int)) / (d : Int) = -((n / d : Nat) : Int) := by
  refine ((Int.ediv_emod_unique (a := -(n : Int)) (b := (d : Int)) (r := 0) (q := -((n / d : Nat) : Int)) (by omega)).2 ⟨?_, by omega, by omega⟩).1
  have h1 := Nat.div_add_mod n d
  have h2 : (d : Int) * ((n / d : Nat) : Int) = ((d * (n / d) : Nat) : Int) := (Int.natCast_mul _ _).symm
  rw [Int.mul_neg, h2]
  omega
/-- The whole part. -/
def qFloor (x : Q) : Q := (x.1 / (x.2 : Int), 1)
theorem low_one (z : Int) : qLow (z, 1) := ⟨Nat.one_pos, Nat.gcd_one_right _⟩
theorem floor_sz {A : Nat} {x : Q} (h : Sz A x) : Sz A (qFloor x) := by
  refine ⟨low_one _, Nat.le_trans (Int.natAbs_ediv_le_natAbs _ _) h.2.1, ?_⟩
  have h1 := h.1.1
  have h2 := h.2.2
  show 1 ≤ A
  omega
theorem floor_value (x : Q) (hx : qLow x) (m : Bool) (hm : m = decide (x.1 < 0)) : x.1 / (x.2 : Int) = if m = true then (if x.1.natAbs % x.2 = 0 then sv m (x.1.natAbs / x.2) else sv m (x.1.natAbs / x.2 + 1)) else sv m (x.1.natAbs / x.2) := by
  have hd := hx.1
  by_cases h : x.1 < 0
  · rw [hm, decide_eq_true h, if_pos rfl]
    have hz : x.1 = -(x.1.natAbs : Int) := by omega
    by_cases h0 : x.1.natAbs % x.2 = 0
    · rw [if_pos h0]
      conv => lhs; rw [hz]
      exact floor_neg0 _ _ hd h0
    · rw [if_neg h0]
      conv => lhs; rw [hz]
      exact floor_neg _ _ hd h0
  · rw [hm, decide_eq_false h, if_neg (by decide)]
    have hz : x.1 = (x.1.natAbs : Int) := by omega
    conv => lhs; rw [hz]
    rfl
theorem nrm_one : Nrm [(1 : Int)] := ⟨Dig.one (by decide), by decide⟩
theorem V_1 : V [(1 : Int)] = 1 := rfl
theorem write_whole (m : Bool) (N : List Int) (hN : Nrm N) (hl : N.length ≤ 600000) (k : Nat) (hk : 3000000000 ≤ k) (hf : Fit (sv m (V N), 1)) : exact_number_write.f k m N [1] = some (nt (sv m (V N), 1), dt (sv m (V N), 1), 0) := by
  have hc : can (sv m (V N), 1) = (sv m (V N), 1) := can_low_self (low_one _)
  have h := write_f m N [1] hN nrm_one hl (by decide) (by rw [V_1]; decide) (by rw [V_1, hc]; exact hf.1) (by rw [V_1, hc]; exact hf.2) k (by rw [V_1]; omega)
  rw [V_1, hc] at h
  exact h
theorem floor_num (x : Q) (hx : qLow x) (fx : Fit x) (fz : Fit (qFloor x)) : ∃ K, ∀ k, K ≤ k → exact_Floor.f k (nt x) (dt x) = some (nt (qFloor x), dt (qFloor x), 0) := by
  obtain ⟨K1, h1⟩ := read_num x hx fx
  refine ⟨K1 + 4000000000, fun k hk => ?_⟩
  obtain ⟨m, N, D, e1, r⟩ := h1 k (by omega)
  have hDn : D ≠ [] := fun e => by
    have := r.d
    rw [e] at this
    have h0 : V [] = 0 := rfl
    have := hx.1
    omega
  have lN := r.lN
  have lD := r.lD
  obtain ⟨q, s, q1, q2, q3, q4, q5, q6, q7⟩ := divide_f N D r.hN.1 r.hD hDn (by omega) (by omega) k (by omega)
  have hfl := floor_value x hx m r.m
  rw [r.n, r.d] at q2 q3
  unfold exact_Floor.f
  rw [e1, Option.bind_some, if_pos rfl]
  simp only
  rw [q1, Option.bind_some]
  simp only
  have plain : x.1 / (x.2 : Int) = sv m (x.1.natAbs / x.2) → exact_number_write.f k m q [1] = some (nt (qFloor x), dt (qFloor x), 0) := by
    intro hv
    have hq : qFloor x = (sv m (V q), 1) := by unfold qFloor; rw [hv, q2]
    rw [hq] at fz ⊢
    exact write_whole m q q4 (by omega) k (by omega) fz
  by_cases hm : m = true
  · rw [if_pos hm, zero_f s q5, Option.bind_some, q3]
    rw [if_pos hm] at hfl
    by_cases h0 : x.1.natAbs % x.2 = 0
    · rw [if_pos h0] at hfl
      rw [if_pos (decide_eq_true h0)]
      exact plain hfl
    · rw [if_neg h0] at hfl
      rw [if_neg (by simp [h0])]
      obtain ⟨t, t1, t2, t3, t4⟩ := plus_f q [1] q4 nrm_one (by omega) (by decide) k (by simp only [List.length_singleton]; omega)
      rw [V_1, q2] at t2
      have hq : qFloor x = (sv m (V t), 1) := by unfold qFloor; rw [hfl, t2]
      rw [hq] at fz ⊢
      rw [t1, Option.bind_some]
      exact write_whole m t t3 (by simp only [List.length_singleton] at t4; omega) k (by omega) fz
  · rw [if_neg hm] at hfl ⊢
    exact plain hfl
end Go.Proofs.YtefhcgnamfnkbaaGreatDoor.Pure
