/- Scaling and rounding of numbers. The square root of a natural number, rounded down: Newton's steps. Round, Fixed, Root of fractions in lowest terms. -/
import Derived.Test.YtefhcgnamfnkbaaGreatDoorPd
import Derived.Test.YtefhcgnamfnkbaaGreatDoorScale
import Derived.Test.YtefhcgnamfnkbaaGreatDoorRounded
import Derived.Test.YtefhcgnamfnkbaaGreatDoorRoot
import Derived.Test.YtefhcgnamfnkbaaGreatDoorRound
import Derived.Test.YtefhcgnamfnkbaaGreatDoorMod
import Derived.Test.YtefhcgnamfnkbaaGreatDoorSqrt
namespace Go.Proofs.YtefhcgnamfnkbaaGreatDoor.Pure
open Go.RowKit Go.Proofs.YtefhcgnamfnkbaaGreatDoor.Pr Go.Proofs.YtefhcgnamfnkbaaGreatDoorW.PrintWords Go.Proofs.YtefhcgnamfnkbaaGreatDoorW.PrintLast
theorem fuel_small (a b k : Nat) (ha : a ≤ 1000) (hb : b ≤ 1000) (hk : 20000000 ≤ k) : a * (b + 2) + a + b + 5 ≤ k := by
  have := Nat.mul_le_mul ha (show b + 2 ≤ 1002 by omega)
  omega
/-- Times a power of ten. -/
theorem scaled_f (m : Bool) (N D : List Int) (n k : Nat) (hN : Nrm N) (lN : N.length ≤ 800) (hn : n ≤ 200) (hk : 20000000 ≤ k) : ∃ N', exact_number_scaled.f k m N D (n : Int) = some (m, N', D) ∧ V N' = V N * 10 ^ n ∧ Nrm N' ∧ N'.length ≤ N.length + n + 1 := by
  obtain ⟨T, t1, t2, t3, t4⟩ := ten_f n (by omega) k (by omega)
  obtain ⟨M, m1, m2, m3, m4⟩ := times_f N T hN.1 t3.1 (by omega) (by omega) k (fuel_small _ _ _ (by omega) (by omega) hk)
  refine ⟨M, ?_, by rw [m2, t2], m3, by omega⟩
  unfold exact_number_scaled.f
  rw [if_neg (by omega), t1, Option.bind_some, m1, Option.bind_some]
/-- A whole number over a power of ten. -/
theorem scaled_back (m : Bool) (N : List Int) (n k : Nat) (hN : Nrm N) (lN : N.length ≤ 800) (hn : n ≤ 200) (hk : 20000000 ≤ k) : ∃ N' D', exact_number_scaled.f k m N [1] (wrap64 (-(n : Int))) = some (m, N', D') ∧ V N' = V N ∧ V D' = 10 ^ n ∧ Nrm N' ∧ Nrm D' ∧ N'.length ≤ N.length + 1 ∧ D'.length ≤ n + 2 := by
  have nrm1 : Nrm [(1 : Int)] := ⟨Dig.one (by decide), by decide⟩
  have v1 : V [(1 : Int)] = 1 := rfl
  have hw : wrap64 (-(n : Int)) = -(n : Int) := by unfold wrap64; omega
  rw [hw]
  by_cases h : n = 0
  · subst h
    obtain ⟨N', a1, a2, a3, a4⟩ := scaled_f m N [1] 0 k hN lN (by omega) hk
    exact ⟨N', [1], a1, by rw [a2, Nat.pow_zero, Nat.mul_one], by rw [v1, Nat.pow_zero], a3, nrm1, by omega, by decide⟩
  · obtain ⟨T, t1, t2, t3, t4⟩ := ten_f n (by omega) k (by omega)
    obtain ⟨M, m1, m2, m3, m4⟩ := times_f [1] T nrm1.1 t3.1 (by decide) (by omega) k (fuel_small _ _ _ (by decide) (by omega) hk)
    refine ⟨N, M, ?_, rfl, by rw [m2, t2, v1, Nat.one_mul], hN, m3, by omega, by simp only [List.length_singleton] at m4; omega⟩
    have hneg : wrap64 (-(-(n : Int))) = ((n : Nat) : Int) := by unfold wrap64; omega
    unfold exact_number_scaled.f
    rw [if_pos (by omega), hneg, t1, Option.bind_some, m1, Option.bind_some]
/-- To the nearest whole number. -/
theorem rounded_f (m : Bool) (N D : List Int) (k : Nat) (hN : Nrm N) (hD : Nrm D) (lN : N.length ≤ 1000) (lD : D.length ≤ 1000) (hD0 : 0 < V D) (hk : 2000000000 ≤ k) : ∃ Q', exact_number_rounded.f k m N D = some (m, Q', [1]) ∧ V Q' = (V N + V N + V D) / (V D + V D) ∧ Nrm Q' ∧ Q'.length ≤ 2 * N.length + D.length + 5 := by
  obtain ⟨a, a1, a2, a3, a4⟩ := plus_f N N hN hN (by omega) (by omega) k (by omega)
  obtain ⟨b, b1, b2, b3, b4⟩ := plus_f a D a3 hD (by omega) (by omega) k (by omega)
  obtain ⟨c, c1, c2, c3, c4⟩ := plus_f D D hD hD (by omega) (by omega) k (by omega)
  obtain ⟨q, r, q1, q2, _, q4, _, q6, _⟩ := divide_f b c b3.1 c3 (ne_of_V c2 (by omega)) (by omega) (by omega) k (by omega)
  refine ⟨q, ?_, by rw [q2, b2, a2, c2], q4, by omega⟩
  unfold exact_number_rounded.f
  rw [a1, Option.bind_some, b1, Option.bind_some, c1, Option.bind_some, q1, Option.bind_some]
/-- The nearest number of units. -/
def near (x : Q) (n : Nat) : Nat := (x.1.natAbs * 10 ^ n + x.1.natAbs * 10 ^ n + x.2) / (x.2 + x.2)
theorem near_le {x : Q} (hx : Sz (10 ^ 40) x) (n : Nat) : near x n ≤ 10 ^ (40 + n) + 1 := by
  unfold near
  have hd := hx.1.1
  have h1 : x.1.natAbs * 10 ^ n ≤ 10 ^ (40 + n) := by rw [Nat.pow_add]; exact Nat.mul_le_mul_right _ hx.2.1
  refine Nat.div_le_of_le_mul ?_
  have h2 : (x.2 + x.2) * (10 ^ (40 + n) + 1) = (x.2 + x.2) * 10 ^ (40 + n) + (x.2 + x.2) := Nat.mul_succ _ _
  have h3 : 2 * 10 ^ (40 + n) ≤ (x.2 + x.2) * 10 ^ (40 + n) := Nat.mul_le_mul_right _ (by omega)
  omega
theorem near_lt {x : Q} (hx : Sz (10 ^ 40) x) (n : Nat) : near x n < 10 ^ (40 + n + 1) := by
  have h1 := near_le hx n
  have h2 : 10 ^ (40 + n + 1) = 10 ^ (40 + n) * 10 := Nat.pow_succ _ _
  have h3 : 0 < 10 ^ (40 + n) := Nat.pow_pos (by decide)
  omega
/-- A small number of units has few digits. -/
theorem fit_units (m : Bool) (z n e : Nat) (hz : z < 10 ^ (e + 1)) (he : e ≤ 299) (hn : n ≤ 200) : Fit (can (sv m z, 10 ^ n)) := by
  have hp : 0 < 10 ^ n := Nat.pow_pos (by decide)
  have h := can_le (sv m z) (10 ^ n) hp
  rw [sv_abs] at h
  have h1 := dec_len_le e _ (Nat.lt_of_le_of_lt h.1 hz)
  have h2 := dec_len_le n _ (Nat.lt_of_le_of_lt h.2 (Nat.pow_lt_pow_right (by decide) (Nat.lt_succ_self n)))
  exact ⟨by omega, by unfold denT; omega⟩
/-- What is written of a number of units. -/
theorem write_units (m : Bool) (N : List Int) (n k : Nat) (hN : Nrm N) (lN : N.length ≤ 800) (hn : n ≤ 200) (e : Nat) (hz : V N < 10 ^ (e + 1)) (he : e ≤ 299) (hk : 10 ^ n + 3000000000 ≤ k) :
    ∃ N' D', exact_number_scaled.f k m N [1] (wrap64 (-(n : Int))) = some (m, N', D') ∧ exact_number_write.f k m N' D' = some (nt (can (sv m (V N), 10 ^ n)), dt (can (sv m (V N), 10 ^ n)), 0) := by
  have hk3 : 3000000000 ≤ k := Nat.le_trans (Nat.le_add_left _ _) hk
  have hk2 : 10 ^ n + 2000000000 ≤ k := Nat.le_trans (Nat.add_le_add_left (by decide) _) hk
  obtain ⟨N', D', h1, h2, h3, h4, h5, h6, h7⟩ := scaled_back m N n k hN lN hn (by omega)
  refine ⟨N', D', h1, ?_⟩
  have hf := fit_units m (V N) n e hz he hn
  have := write_f m N' D' h4 h5 (by omega) (by omega) (by rw [h3]; exact Nat.pow_pos (by decide)) (by rw [h2, h3]; exact hf.1) (by rw [h2, h3]; exact hf.2) k (by rw [h3]; exact hk2)
  rw [h2, h3] at this
  exact this
end Go.Proofs.YtefhcgnamfnkbaaGreatDoor.Pure
namespace Go.Proofs.YtefhcgnamfnkbaaGreatDoor.Pure
open Go.RowKit Go.Proofs.YtefhcgnamfnkbaaGreatDoor.Pr Go.Proofs.YtefhcgnamfnkbaaGreatDoorW.PrintWords Go.Proofs.YtefhcgnamfnkbaaGreatDoorW.PrintLast
def IsRoot (r a : Nat) : Prop := r * r ≤ a ∧ a < (r + 1) * (r + 1)
theorem root_mono {r s a b : Nat} (h : IsRoot r a) (g : IsRoot s b) (hab : a ≤ b) : r ≤ s := by
  rcases Nat.lt_or_ge s r with h1 | h1
  · have := Nat.mul_le_mul (show s + 1 ≤ r from h1) (show s + 1 ≤ r from h1)
    have := h.1
    have := g.2
    omega
  · exact h1
theorem root_unique {r s a : Nat} (h : IsRoot r a) (g : IsRoot s a) : r = s := Nat.le_antisymm (root_mono h g (Nat.le_refl _)) (root_mono g h (Nat.le_refl _))
theorem root_square (r : Nat) : IsRoot r (r * r) := ⟨Nat.le_refl _, by
  have := Nat.mul_le_mul (show r ≤ r + 1 by omega) (show r + 1 ≤ r + 1 by omega)
  have e : r * (r + 1) = r * r + r := Nat.mul_succ r r
  have e2 : (r + 1) * (r + 1) = r * (r + 1) + (r + 1) := Nat.succ_mul r (r + 1)
  omega⟩
theorem root_exists : ∀ a, ∃ r, IsRoot r a
  | 0 => ⟨0, by decide, by decide⟩
  | a + 1 => by
    obtain ⟨r, h1, h2⟩ := root_exists a
    by_cases h : (r + 1) * (r + 1) ≤ a + 1
    · refine ⟨r + 1, h, ?_⟩
      have := (root_square (r + 1)).2
      omega
    · exact ⟨r, by omega, by omega⟩
theorem amgm_le (u v r : Nat) (hu : u ≤ r) (h : u + v ≤ 2 * r) : u * v ≤ r * r := by
  obtain ⟨t, rfl⟩ : ∃ t, r = u + t := ⟨r - u, by omega⟩
  have h1 : u * v ≤ u * (u + 2 * t) := Nat.mul_le_mul_left _ (by omega)
  have h2 : u * (u + 2 * t) = u * u + 2 * (u * t) := by rw [Nat.mul_add, Nat.mul_left_comm]
  have h3 : (u + t) * (u + t) = u * u + u * t + (u * t + t * t) := by rw [Nat.add_mul, Nat.mul_add, Nat.mul_add, Nat.mul_comm t u]
  omega
theorem amgm (u v r : Nat) (h : u + v ≤ 2 * r) : u * v ≤ r * r := by
  rcases Nat.le_total u r with h1 | h1
  · exact amgm_le u v r h1 h
  · rw [Nat.mul_comm]
    exact amgm_le v u r (by omega) (by omega)
theorem newton_ge {r a x : Nat} (hx : 0 < x) (h : IsRoot r a) : r ≤ (x + a / x) / 2 := by
  rcases Nat.lt_or_ge ((x + a / x) / 2) r with h1 | h1
  · exfalso
    have h2 : x + (a / x + 1) ≤ 2 * r := by omega
    have h3 := amgm x (a / x + 1) r h2
    have h4 : a < x * (a / x + 1) := Nat.lt_mul_div_succ a hx
    have := h.1
    omega
  · exact h1
theorem newton_lt {r a x : Nat} (h : IsRoot r a) (hx : r < x) : (x + a / x) / 2 < x := by
  have h1 := Nat.mul_le_mul (show r + 1 ≤ x from hx) (show r + 1 ≤ x from hx)
  have h2 : a / x < x := Nat.div_lt_of_lt_mul (Nat.lt_of_lt_of_le h.2 h1)
  omega
theorem nrm2 : Nrm [(2 : Int)] := ⟨Dig.one (by decide), by decide⟩
theorem V2 : V [(2 : Int)] = 2 := rfl
theorem root_l0 (a : List Int) (ha : Nrm a) (la : a.length ≤ 2000) (r : Nat) (hr : IsRoot r (V a)) (h1 : 1 ≤ r) : ∀ (n k : Nat) (x : List Int), Nrm x → x.length ≤ 20000 → r ≤ V x → V x ≤ n → n + 3000000000 ≤ k →
    ∃ y, exact_nat_root.l0 k a x [2] = some y ∧ V y = r ∧ Nrm y ∧ y.length ≤ 20000
  | 0, _, x, _, _, h2, h3, _ => absurd h2 (by omega)
  | n + 1, k, x, hx, lx, h2, h3, hk => by
    obtain ⟨k, rfl⟩ : ∃ z, k = z + 1 := ⟨k - 1, by omega⟩
    have hx0 : 0 < V x := by omega
    obtain ⟨q, _, q1, q2, _, q4, _, q6, _⟩ := divide_f a x ha.1 hx (ne_of_V rfl hx0) (by omega) (by omega) k (by omega)
    obtain ⟨t, t1, t2, t3, t4⟩ := plus_f x q hx q4 (by omega) (by omega) k (by omega)
    obtain ⟨y, _, y1, y2, _, y4, _, y6, _⟩ := divide_f t [2] t3.1 nrm2 (by simp) (by omega) (by decide) k (by simp only [List.length_singleton]; omega)
    obtain ⟨c, c1, c2, c3⟩ := compare_f y x y4 hx (by omega) (by omega) k (by omega)
    rw [V2, t2, q2] at y2
    simp only [exact_nat_root.l0]
    rw [q1, Option.bind_some, t1, Option.bind_some, y1, Option.bind_some, c1, Option.bind_some]
    have hge := newton_ge hx0 hr
    by_cases hc : c ≥ 0
    · rw [if_pos hc]
      refine ⟨x, rfl, ?_, hx, lx⟩
      rcases Nat.lt_or_ge r (V x) with h | h
      · have := newton_lt hr h
        have := c3.2 (by omega)
        omega
      · omega
    · rw [if_neg hc]
      have hlt := c3.1 (by omega)
      have := len_of_lt y4 hx hlt
      exact root_l0 a ha la r hr h1 n k y y4 (by omega) (by omega) (by omega) (by omega)
theorem root_f (a : List Int) (ha : Nrm a) (la : a.length ≤ 1000) (M : Nat) (hM : ∀ p, p ≤ 4600 → 10 ^ p ≤ M) (k : Nat) (hk : M + 3000000000 ≤ k) : ∃ y, exact_nat_root.f k a = some y ∧ IsRoot (V y) (V a) ∧ Nrm y ∧ y.length ≤ 20000 := by
  unfold exact_nat_root.f
  rw [zero_f a ha, Option.bind_some]
  by_cases h0 : V a = 0
  · rw [if_pos (decide_eq_true h0)]
    refine ⟨a, rfl, ?_, ha, by omega⟩
    rw [h0]
    exact ⟨by decide, by decide⟩
  · rw [if_neg (by simp [h0])]
    have hl := text_len ha.1 la
    have hw : (((B (Lib.decDigits (V a))).size : Int) + 1) / 2 + 1 = (((((Lib.decDigits (V a)).length + 1) / 2 + 1 : Nat)) : Int) := by
      rw [B_size]; omega
    obtain ⟨T, t1, t2, t3, t4⟩ := ten_f (((Lib.decDigits (V a)).length + 1) / 2 + 1) (by omega) k (by omega)
    rw [text_f a ha (by omega), Option.bind_some, if_pos (by rw [B_size]; omega), hw, t1, Option.bind_some]
    obtain ⟨r, hr⟩ := root_exists (V a)
    have h1 : 1 ≤ r := by
      rcases Nat.eq_zero_or_pos r with h | h
      · rw [h] at hr
        have := hr.2
        omega
      · exact h
    have hle : r ≤ V T := by
      rw [t2]
      rcases Nat.lt_or_ge (10 ^ (((Lib.decDigits (V a)).length + 1) / 2 + 1)) r with h | h
      · exfalso
        have g1 := Nat.mul_le_mul (Nat.le_of_lt h) (Nat.le_of_lt h)
        rw [← Nat.pow_add] at g1
        have g2 := dec_lt (V a)
        have g3 : 10 ^ (Lib.decDigits (V a)).length ≤ 10 ^ (((Lib.decDigits (V a)).length + 1) / 2 + 1 + (((Lib.decDigits (V a)).length + 1) / 2 + 1)) := Nat.pow_le_pow_right (by decide) (by omega)
        have := hr.1
        omega
      · exact h
    have hn : V T ≤ M := by rw [t2]; exact hM _ (by omega)
    obtain ⟨y, y1, y2, y3, y4⟩ := root_l0 a ha (by omega) r hr h1 M k T t3 (by omega) hle hn hk
    exact ⟨y, y1, by rw [y2]; exact hr, y3, y4⟩
end Go.Proofs.YtefhcgnamfnkbaaGreatDoor.Pure
namespace Go.Proofs.YtefhcgnamfnkbaaGreatDoor.Pure
open Go.RowKit Go.Proofs.YtefhcgnamfnkbaaGreatDoor.Pr Go.Proofs.YtefhcgnamfnkbaaGreatDoorW.PrintWords Go.Proofs.YtefhcgnamfnkbaaGreatDoorW.PrintLast
/-- A small number has few digits in the base 10^9. -/
theorem len_small (q : List Int) (hq : Nrm q) (e : Nat) (h : V q < 10 ^ e) : q.length ≤ e + 1 := by
  by_cases h0 : q = []
  · rw [h0]; simp
  · have h1 := V_pos_len hq h0
    have h2 : Bs = 10 ^ 9 := rfl
    rw [h2, ← Nat.pow_mul] at h1
    have h3 : 9 * (q.length - 1) < e := by
      rcases Nat.lt_or_ge (9 * (q.length - 1)) e with h4 | h4
      · exact h4
      · have := Nat.pow_le_pow_right (show 0 < 10 by decide) h4
        omega
    omega
/-- The steps of Round and Fixed. -/
structure Steps (k : Nat) (x : Q) (n : Nat) (N D N1 Z N3 D3 : List Int) : Prop where
  h0 : exact_read.f k (nt x) (dt x) = some (neg x, N, D, 0)
  h1 : exact_number_scaled.f k (neg x) N D (n : Int) = some (neg x, N1, D)
  h2 : exact_number_rounded.f k (neg x) N1 D = some (neg x, Z, [1])
  h3 : exact_number_scaled.f k (neg x) Z [1] (-(n : Int)) = some (neg x, N3, D3)
  h4 : exact_number_write.f k (neg x) N3 D3 = some (nt (can (sv (neg x) (near x n), 10 ^ n)), dt (can (sv (neg x) (near x n), 10 ^ n)), 0)
  hZ : Nrm Z
  vZ : V Z = near x n
  lZ : Z.length ≤ 800
theorem steps_num (x : Q) (hx : Sz (10 ^ 40) x) (n : Nat) (hn : n ≤ 100) : ∃ K, ∀ k, K ≤ k → ∃ N D N1 Z N3 D3, Steps k x n N D N1 Z N3 D3 := by
  obtain ⟨K1, h1⟩ := read_num x hx.1 (fit_of hx (by decide +kernel))
  refine ⟨K1 + 10 ^ n + 4000000000, fun k hk => ?_⟩
  have hk1 : 10 ^ n + 3000000000 ≤ k := by
    refine Nat.le_trans ?_ hk
    rw [Nat.add_assoc]
    exact Nat.le_trans (Nat.add_le_add_left (by decide) _) (Nat.le_add_left _ K1)
  have hk2 : 3000000000 ≤ k := Nat.le_trans (Nat.le_add_left _ _) hk1
  have hk3 : K1 ≤ k := Nat.le_trans (Nat.le_trans (Nat.le_add_right _ _) (Nat.le_add_right _ _)) hk
  obtain ⟨m, N, D, e1, r⟩ := h1 k hk3
  obtain rfl : m = neg x := r.m
  have lN := r.lN
  have lD := r.lD
  have hd := hx.1.1
  obtain ⟨N1, s1, s2, s3, s4⟩ := scaled_f (neg x) N D n k r.hN (by omega) (by omega) (by omega)
  obtain ⟨Z, z1, z2, z3, z4⟩ := rounded_f (neg x) N1 D k s3 r.hD (by omega) (by omega) (by rw [r.d]; exact hd) (by omega)
  rw [s2, r.n, r.d] at z2
  have vZ : V Z = near x n := z2
  have hlt := near_lt hx n
  have lZ := len_small Z z3 (40 + n + 1) (by rw [vZ]; exact hlt)
  obtain ⟨N3, D3, w1, w2⟩ := write_units (neg x) Z n k z3 (by omega) (by omega) (40 + n) (by rw [vZ]; exact hlt) (by omega) hk1
  have hw : wrap64 (-(n : Int)) = -(n : Int) := by unfold wrap64; omega
  rw [hw] at w1
  rw [vZ] at w2
  exact ⟨N, D, N1, Z, N3, D3, e1, s1, z1, w1, w2, z3, vZ, by omega⟩
theorem round_num (x : Q) (hx : Sz (10 ^ 40) x) (n : Nat) (hn : n ≤ 100) : ∃ K, ∀ k, K ≤ k → exact_Round.f k (nt x) (dt x) (n : Int) = some (nt (can (sv (neg x) (near x n), 10 ^ n)), dt (can (sv (neg x) (near x n), 10 ^ n)), 0) := by
  obtain ⟨K, hK⟩ := steps_num x hx n hn
  refine ⟨K, fun k hk => ?_⟩
  obtain ⟨N, D, N1, Z, N3, D3, s⟩ := hK k hk
  unfold exact_Round.f
  rw [if_pos ⟨by omega, by omega⟩, s.h0, Option.bind_some, if_pos rfl]
  simp only
  rw [s.h1, Option.bind_some, s.h2, Option.bind_some, s.h3, Option.bind_some]
  exact s.h4
/-- The square root to n places. -/
theorem sqrt_num (x : Q) (hx : Sz (10 ^ 120) x) (h0 : 0 ≤ x.1) (n : Nat) (hn : n ≤ 11) : ∃ K, ∀ k, K ≤ k → ∃ R, IsRoot R (x.1.natAbs * 10 ^ (2 * n) / x.2) ∧ exact_Root.f k (nt x) (dt x) n = some (nt (can (sv false R, 10 ^ n)), dt (can (sv false R, 10 ^ n)), 0) := by
  obtain ⟨K1, h1⟩ := read_num x hx.1 (fit_of hx (by decide +kernel))
  obtain ⟨M, hM⟩ : ∃ M, ∀ p, p ≤ 4600 → 10 ^ p ≤ M := by
    obtain ⟨e, he⟩ : ∃ e : Nat, e = 4600 := ⟨_, rfl⟩
    exact ⟨10 ^ e, fun p hp => Nat.pow_le_pow_right (by decide) (by omega)⟩
  refine ⟨K1 + 10 ^ n + M + 4000000000, fun k hk => ?_⟩
  have hpp : 0 < 10 ^ n := Nat.pow_pos (by decide)
  have hk1 : 10 ^ n + 3000000000 ≤ k := Nat.le_trans (by omega) hk
  have hk2 : M + 3000000000 ≤ k := Nat.le_trans (by omega) hk
  have hk3 : K1 ≤ k := Nat.le_trans (by omega) hk
  have hk4 : 3000000000 ≤ k := Nat.le_trans (Nat.le_add_left _ _) hk2
  obtain ⟨m, N, D, e1, r⟩ := h1 k hk3
  obtain rfl : m = false := by rw [r.m]; exact decide_eq_false (by omega)
  have lN := r.lN
  have lD := r.lD
  have hd := hx.1.1
  obtain ⟨T, t1, t2, t3, t4⟩ := ten_f (2 * n) (by omega) k (by omega)
  obtain ⟨U, u1, u2, u3, u4⟩ := times_f N T r.hN.1 t3.1 (by omega) (by omega) k (fuel_small _ _ _ (by omega) (by omega) (by omega))
  obtain ⟨v, v2, d1, d2, _, d4, _, d6, _⟩ := divide_f U D u3.1 r.hD (ne_of_V r.d hd) (by omega) (by omega) k (by omega)
  obtain ⟨y, y1, y2, y3, y4⟩ := root_f v d4 (by omega) M hM k hk2
  obtain ⟨S, s1, s2, s3, s4⟩ := ten_f n (by omega) k (by omega)
  rw [u2, t2, r.n, r.d] at d2
  rw [d2] at y2
  refine ⟨V y, y2, ?_⟩
  have hle : V y < 10 ^ (142 + 1) := by
    have a1 : V y ≤ V y * V y := by
      rcases Nat.eq_zero_or_pos (V y) with h | h
      · rw [h]; decide
      · exact Nat.le_mul_of_pos_left _ h
    have a2 : x.1.natAbs * 10 ^ (2 * n) / x.2 ≤ 10 ^ 120 * 10 ^ (2 * n) := Nat.le_trans (Nat.div_le_self _ _) (Nat.mul_le_mul_right _ hx.2.1)
    rw [← Nat.pow_add] at a2
    have a3 : 10 ^ (120 + 2 * n) < 10 ^ (142 + 1) := Nat.pow_lt_pow_right (by decide) (by omega)
    exact Nat.lt_of_le_of_lt (Nat.le_trans (Nat.le_trans a1 y2.1) a2) a3
  have hy := len_small y y3 (142 + 1) hle
  have hf := fit_units false (V y) n 142 hle (by omega) (by omega)
  have hw := write_f false y S y3 s3 (by omega) (by omega) (by rw [s2]; exact Nat.pow_pos (by decide)) (by rw [s2]; exact hf.1) (by rw [s2]; exact hf.2) k (by rw [s2]; exact Nat.le_trans (Nat.add_le_add_left (by decide) _) hk1)
  rw [s2] at hw
  have h2n : (2 : Int) * (n : Int) = ((2 * n : Nat) : Int) := by omega
  unfold exact_Root.f
  rw [if_pos ⟨by omega, by omega⟩, e1, Option.bind_some, if_pos rfl, if_pos rfl]
  simp only
  rw [h2n, t1, Option.bind_some, u1, Option.bind_some, d1, Option.bind_some, y1, Option.bind_some, s1, Option.bind_some]
  exact hw
theorem mod_num (n : Int) (m : Nat) (hm : 1 ≤ m) (hm2 : m ≤ 1000) : ∃ j : Nat, chancerykeep2_mod.f n (m : Int) = some (j : Int) ∧ j < m := by
  have a1 : Int.tmod n (m : Int) < (m : Int) := Int.tmod_lt_of_pos n (by omega)
  have a2 : -(m : Int) < Int.tmod n (m : Int) := by
    have := Int.tmod_lt_of_pos (-n) (show (0 : Int) < (m : Int) by omega)
    rw [Int.neg_tmod] at this
    omega
  have hw : wrap64 (Int.tmod n (m : Int) + (m : Int)) = Int.tmod n (m : Int) + (m : Int) := by unfold wrap64; omega
  obtain ⟨y, hy⟩ : ∃ y : Nat, Int.tmod n (m : Int) + (m : Int) = (y : Int) := ⟨(Int.tmod n (m : Int) + (m : Int)).toNat, by omega⟩
  refine ⟨y % m, ?_, Nat.mod_lt _ hm⟩
  unfold chancerykeep2_mod.f
  rw [if_neg (by omega), hw, hy]
  rfl
end Go.Proofs.YtefhcgnamfnkbaaGreatDoor.Pure
