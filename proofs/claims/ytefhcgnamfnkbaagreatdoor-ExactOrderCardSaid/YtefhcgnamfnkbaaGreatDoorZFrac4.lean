/- Add, Sub, Mul, Div of fractions in lowest terms. -/
import Derived.Test.YtefhcgnamfnkbaaGreatDoorZFrac3
import Derived.Test.YtefhcgnamfnkbaaGreatDoorLits
namespace Go.Proofs.YtefhcgnamfnkbaaGreatDoor.Pure
open Go.RowKit Go.Proofs.YtefhcgnamfnkbaaGreatDoor.Pr Go.Proofs.YtefhcgnamfnkbaaGreatDoorW.PrintWords Go.Proofs.YtefhcgnamfnkbaaGreatDoorW.PrintLast

theorem rd_sv {x : Q} {m : Bool} {N D : List Int} (h : Rd x m N D) : sv m (V N) = x.1 := by rw [h.n, h.m, sv_dec]
theorem sv_not (m : Bool) (n : Nat) : sv (!m) n = -(sv m n) := by cases m <;> simp [sv]
theorem le1000 {n : Nat} (h : n ≤ 300) : n ≤ 1000 := by omega
theorem add_num (x y : Q) (hx : qLow x) (hy : qLow y) (fx : Fit x) (fy : Fit y) (fz : Fit (qAdd x y)) : ∃ K, ∀ k, K ≤ k → exact_two.f exact_Add_1.f k (nt x) (dt x) (nt y) (dt y) = some (nt (qAdd x y), dt (qAdd x y), 0) := by
  refine two_num exact_Add_1.f x y (rAdd x y) hx hy fx fy (Nat.mul_pos hx.1 hy.1) fz 20000000 ?_
  intro k hk m N D m' N' D' r r'
  obtain ⟨M, P, R, e, s1, s2, s3, s4, s5, s6⟩ := sum_f m m' N D N' D' r.hN r.hD r'.hN r'.hD (le1000 r.lN) (le1000 r.lD) (le1000 r'.lN) (le1000 r'.lD) k hk
  refine ⟨M, P, R, ?_, ?_, ?_, s3, s4, s5, s6⟩
  · unfold exact_Add_1.f
    rw [e, Option.bind_some]
  · rw [s1, rd_sv r, rd_sv r', r.d, r'.d]; rfl
  · rw [s2, r.d, r'.d]; rfl
theorem sub_num (x y : Q) (hx : qLow x) (hy : qLow y) (fx : Fit x) (fy : Fit y) (fz : Fit (qSub x y)) : ∃ K, ∀ k, K ≤ k → exact_two.f exact_Sub_1.f k (nt x) (dt x) (nt y) (dt y) = some (nt (qSub x y), dt (qSub x y), 0) := by
  refine two_num exact_Sub_1.f x y (rSub x y) hx hy fx fy (Nat.mul_pos hx.1 hy.1) fz 20000000 ?_
  intro k hk m N D m' N' D' r r'
  obtain ⟨M, P, R, e, s1, s2, s3, s4, s5, s6⟩ := sum_f m (!m') N D N' D' r.hN r.hD r'.hN r'.hD (le1000 r.lN) (le1000 r.lD) (le1000 r'.lN) (le1000 r'.lD) k hk
  refine ⟨M, P, R, ?_, ?_, ?_, s3, s4, s5, s6⟩
  · unfold exact_Sub_1.f
    rw [e, Option.bind_some]
  · rw [s1, sv_not, rd_sv r, rd_sv r', r.d, r'.d, Int.neg_mul]; rfl
  · rw [s2, r.d, r'.d]; rfl
theorem mul_fuel (a b k : Nat) (ha : a ≤ 300) (hb : b ≤ 300) (hk : 20000000 ≤ k) : a * (b + 2) + a + b + 5 ≤ k := by
  have := Nat.mul_le_mul ha (show b + 2 ≤ 302 by omega)
  omega
theorem mul_num (x y : Q) (hx : qLow x) (hy : qLow y) (fx : Fit x) (fy : Fit y) (fz : Fit (qMul x y)) : ∃ K, ∀ k, K ≤ k → exact_two.f exact_Mul_1.f k (nt x) (dt x) (nt y) (dt y) = some (nt (qMul x y), dt (qMul x y), 0) := by
  refine two_num exact_Mul_1.f x y (rMul x y) hx hy fx fy (Nat.mul_pos hx.1 hy.1) fz 20000000 ?_
  intro k hk m N D m' N' D' r r'
  obtain ⟨p, p1, p2, p3, p4⟩ := times_f N N' r.hN.1 r'.hN.1 (Nat.le_trans r.lN (by decide)) (Nat.le_trans r'.lN (by decide)) k (mul_fuel _ _ _ r.lN r'.lN hk)
  obtain ⟨q, q1, q2, q3, q4⟩ := times_f D D' r.hD.1 r'.hD.1 (Nat.le_trans r.lD (by decide)) (Nat.le_trans r'.lD (by decide)) k (mul_fuel _ _ _ r.lD r'.lD hk)
  have a1 := r.lN
  have a2 := r'.lN
  have a3 := r.lD
  have a4 := r'.lD
  refine ⟨(m != m'), p, q, ?_, ?_, ?_, p3, q3, by omega, by omega⟩
  · unfold exact_Mul_1.f
    rw [p1, Option.bind_some, q1, Option.bind_some]
  · rw [p2, sv_mul, rd_sv r, rd_sv r']; rfl
  · rw [q2, r.d, r'.d]; rfl
theorem sv_sign {z : Int} (h : z ≠ 0) (n : Nat) : sv (decide (z < 0)) n = (n : Int) * z.sign := by
  unfold sv
  by_cases h1 : z < 0
  · rw [if_pos (decide_eq_true h1), Int.sign_eq_neg_one_of_neg h1]; omega
  · rw [if_neg (by simp [h1]), Int.sign_eq_one_of_pos (by omega)]; omega
theorem div_num (x y : Q) (hx : qLow x) (hy : qLow y) (fx : Fit x) (fy : Fit y) (h0 : y.1 ≠ 0) (fz : Fit (qDiv x y)) : ∃ K, ∀ k, K ≤ k → exact_two.f exact_Div_1.f k (nt x) (dt x) (nt y) (dt y) = some (nt (qDiv x y), dt (qDiv x y), 0) := by
  refine two_num exact_Div_1.f x y (rDiv x y) hx hy fx fy (Nat.mul_pos hx.1 (abs_pos h0)) fz 20000000 ?_
  intro k hk m N D m' N' D' r r'
  obtain ⟨p, p1, p2, p3, p4⟩ := times_f N D' r.hN.1 r'.hD.1 (Nat.le_trans r.lN (by decide)) (Nat.le_trans r'.lD (by decide)) k (mul_fuel _ _ _ r.lN r'.lD hk)
  obtain ⟨q, q1, q2, q3, q4⟩ := times_f D N' r.hD.1 r'.hN.1 (Nat.le_trans r.lD (by decide)) (Nat.le_trans r'.lN (by decide)) k (mul_fuel _ _ _ r.lD r'.lN hk)
  have a1 := r.lN
  have a2 := r'.lN
  have a3 := r.lD
  have a4 := r'.lD
  refine ⟨(m != m'), p, q, ?_, ?_, ?_, p3, q3, by omega, by omega⟩
  · unfold exact_Div_1.f
    have hz : ¬ V N' = 0 := by rw [r'.n]; have := abs_pos h0; omega
    rw [zero_f N' r'.hN, Option.bind_some, if_neg (by simp [hz]), p1, Option.bind_some, q1, Option.bind_some]
  · rw [p2, sv_mul, rd_sv r, r'.m, sv_sign h0, r'.d, ← Int.mul_assoc]; rfl
  · rw [q2, r.d, r'.n]; rfl
end Go.Proofs.YtefhcgnamfnkbaaGreatDoor.Pure
