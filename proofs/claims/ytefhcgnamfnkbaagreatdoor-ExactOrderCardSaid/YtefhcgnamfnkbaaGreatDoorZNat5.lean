/- Natural numbers in the base 10^9: divide, common. -/
import Derived.Test.YtefhcgnamfnkbaaGreatDoorZNat4
namespace Go.Proofs.YtefhcgnamfnkbaaGreatDoor.Pure
open Go.RowKit Go.Proofs.YtefhcgnamfnkbaaGreatDoor.Pr Go.Proofs.YtefhcgnamfnkbaaGreatDoorW.PrintWords Go.Proofs.YtefhcgnamfnkbaaGreatDoorW.PrintLast

theorem V_cons_nat (x : Nat) (r : List Int) : V ((x : Int) :: r) = x + Bs * V r := by simp [V]
theorem len_of_lt {r b : List Int} (hr : Nrm r) (hb : Nrm b) (h : V r < V b) : r.length ≤ b.length := by
  rcases Nat.lt_or_ge b.length r.length with h1 | h1
  · have := V_len_lt hb hr h1; omega
  · exact h1
theorem step_lt (x R Q : Nat) (hx : x < 1000000000) (hR : R < Q) : x + Bs * R < Q * Bs := by
  have h1 : Bs * (R + 1) ≤ Bs * Q := Nat.mul_le_mul_left _ hR
  have h2 : Bs = 1000000000 := rfl
  rw [Nat.mul_comm Q]
  rw [Nat.mul_add] at h1
  omega
theorem step_sum (x R Q A Bv T qd : Nat) (hT : T = x + Bs * R) (hA : Q * Bv + R = A) (hle : Bv * qd ≤ T) : (qd + Bs * Q) * Bv + (T - Bv * qd) = x + Bs * A := by
  have e1 : (qd + Bs * Q) * Bv = Bv * qd + Bs * (Q * Bv) := by rw [Nat.add_mul, Nat.mul_assoc, Nat.mul_comm qd]
  rw [e1, ← hA, Nat.mul_add]
  omega
theorem divide_l0 (a b : List Int) (ha : Dig a) (hb : Nrm b) (h0 : b ≠ []) (hla : a.length ≤ 700000) (hlb : b.length ≤ 700000) (i : Nat) : ∀ (k : Nat) (q r : List Int),
    i ≤ a.length → i + 1000000000 + a.length + 10 * b.length + 200 ≤ k → Dig q → q.length = a.length → Nrm r → V r < V b → V (q.drop i) * V b + V r = V (a.drop i) →
    ∃ q' r', exact_divide.l0 k a b q r ((i : Int) - 1) = some (q', r') ∧ V q' * V b + V r' = V a ∧ V r' < V b ∧ Nrm q' ∧ Nrm r' ∧ q'.length ≤ a.length := by
  induction i with
  | zero =>
    intro k q r hi hk hq hql hr hlt hv
    obtain ⟨k, rfl⟩ : ∃ z, k = z + 1 := ⟨k - 1, by omega⟩
    simp only [exact_divide.l0]
    rw [if_neg (by omega), trim_f q k (by omega) (by omega), Option.bind_some]
    refine ⟨trimL q, r, rfl, ?_, hlt, trim_nrm hq, hr, by have := trim_len q; omega⟩
    rw [trim_V]
    rw [List.drop_zero, List.drop_zero] at hv
    exact hv
  | succ i ih =>
    intro k q r hi hk hq hql hr hlt hv
    obtain ⟨k, rfl⟩ : ∃ z, k = z + 1 := ⟨k - 1, by omega⟩
    have hrl := len_of_lt hr hb hlt
    have hx := dg_lt ha i
    have hrd : rd a (i : Int) = (dg a i : Int) := by
      have := dg_rd ha i
      rw [if_pos (by omega)] at this
      exact this
    have e : (((i + 1 : Nat) : Int) - 1) = (i : Int) := by omega
    rw [e]
    simp only [exact_divide.l0]
    rw [if_pos (by omega), if_pos (by omega), if_pos (by omega), hrd, Option.bind_some]
    have hdig : Dig ((dg a i : Int) :: r) := fun z hz => by
      rcases List.mem_cons.1 hz with rfl | hz
      · omega
      · exact hr.1 z hz
    have hcons : [(dg a i : Int)] ++ r = (dg a i : Int) :: r := rfl
    have htl := trim_len ((dg a i : Int) :: r)
    rw [List.length_cons] at htl
    rw [if_pos (by simp only [List.length_singleton]; omega), hcons, trim_f ((dg a i : Int) :: r) k (by rw [List.length_cons]; omega) (by rw [List.length_cons]; omega), Option.bind_some]
    have hT : V (trimL ((dg a i : Int) :: r)) = dg a i + Bs * V r := by rw [trim_V, V_cons_nat]
    have hTn : Nrm (trimL ((dg a i : Int) :: r)) := trim_nrm hdig
    have hTlt : V (trimL ((dg a i : Int) :: r)) < V b * Bs := by rw [hT]; exact step_lt _ _ _ hx hlt
    generalize trimL ((dg a i : Int) :: r) = T at hT hTn hTlt htl ⊢
    have hbp : 0 < V b := by omega
    have hqd : V T / V b < Bs := by rw [Nat.div_lt_iff_lt_mul hbp, Nat.mul_comm]; exact hTlt
    rw [digit_f T b hTn hb h0 (by omega) (by omega) hTlt k (by omega), Option.bind_some]
    have hle : V b * (V T / V b) ≤ V T := Nat.mul_div_le _ _
    have hmod : V T - V b * (V T / V b) < V b := by
      have := Nat.mod_lt (V T) hbp
      have h2 := Nat.div_add_mod (V T) (V b)
      omega
    generalize V T / V b = qd at hqd hle hmod ⊢
    have hB : Bs = 1000000000 := rfl
    have hqs : Dig (q.set i (qd : Int)) := hq.set i _ (by omega)
    rw [if_pos (by omega), Option.bind_some, Int.toNat_natCast]
    have hrq : rd (q.set i (qd : Int)) (i : Int) = (qd : Int) := by
      rw [rd_nat _ i (by rw [List.length_set]; omega)]; simp
    rw [hrq, trim_f [(qd : Int)] k (by simp only [List.length_singleton]; omega) (by simp), Option.bind_some]
    have hone : Nrm (trimL [(qd : Int)]) := trim_nrm (Dig.one (by omega))
    have honel := trim_len [(qd : Int)]
    rw [List.length_singleton] at honel
    have honeV : V (trimL [(qd : Int)]) = qd := by rw [trim_V, V_one]
    generalize trimL [(qd : Int)] = D at hone honel honeV ⊢
    have hmul : b.length * (D.length + 2) ≤ b.length * 3 := Nat.mul_le_mul_left _ (by omega)
    obtain ⟨p, p1, p2, p3, p4⟩ := times_f b D hb.1 hone.1 (by omega) (by omega) k (by omega)
    rw [p1, Option.bind_some]
    rw [honeV] at p2
    obtain ⟨m, m1, m2, m3, m4⟩ := minus_f T p hTn p3 (by omega) (by rw [p2]; exact hle) k (by omega)
    rw [m1, Option.bind_some, wr_m1 i (by omega)]
    rw [p2] at m2
    refine ih k (q.set i (qd : Int)) m (by omega) (by omega) hqs (by rw [List.length_set]; exact hql) m3 (by rw [m2]; exact hmod) ?_
    have hd1 : V ((q.set i (qd : Int)).drop i) = qd + Bs * V (q.drop (i + 1)) := by
      rw [V_drop, List.drop_set_of_lt (by omega)]
      have : dg (q.set i (qd : Int)) i = qd := by rw [dg_at _ _ (by rw [List.length_set]; omega)]; simp
      rw [this]
    rw [hd1, m2, V_drop a i]
    exact step_sum _ _ _ _ _ _ _ hT hv hle
theorem divide_f (a b : List Int) (ha : Dig a) (hb : Nrm b) (h0 : b ≠ []) (hla : a.length ≤ 700000) (hlb : b.length ≤ 700000) (k : Nat) (hk : 1000000000 + 2 * a.length + 10 * b.length + 200 ≤ k) :
    ∃ q r, exact_divide.f k a b = some (q, r) ∧ V q = V a / V b ∧ V r = V a % V b ∧ Nrm q ∧ Nrm r ∧ q.length ≤ a.length ∧ r.length ≤ b.length := by
  have hbp : 0 < V b := by
    rcases Nat.eq_zero_or_pos (V b) with h | h
    · exact absurd (hb.zero h) h0
    · exact h
  unfold exact_divide.f
  rw [if_pos (by omega), Int.toNat_natCast, if_pos (by omega), wr_m1 _ (by omega)]
  obtain ⟨q, r, h1, h2, h3, h4, h5, h6⟩ := divide_l0 a b ha hb h0 hla hlb a.length k (List.replicate a.length 0) [] (Nat.le_refl _) (by omega) (fun x hx => by rw [(List.mem_replicate.1 hx).2]; decide) (by simp) Nrm.nil hbp (by rw [List.drop_length, List.drop_of_length_le (by simp)]; simp [V])
  have hdm : V a / V b = V q ∧ V a % V b = V r := (Nat.div_mod_unique hbp).2 ⟨by rw [Nat.mul_comm (V b)]; omega, h3⟩
  exact ⟨q, r, h1, hdm.1.symm, hdm.2.symm, h4, h5, h6, len_of_lt h5 hb h3⟩
theorem common_f (n : Nat) : ∀ (a b : List Int) (k : Nat), Nrm a → Nrm b → a.length ≤ 700000 → b.length ≤ 700000 → V b ≤ n → n + 1000000000 + 10000000 ≤ k →
    ∃ g, exact_common.f k a b = some g ∧ V g = Nat.gcd (V a) (V b) ∧ Nrm g ∧ g.length ≤ 700000 := by
  induction n with
  | zero =>
    intro a b k ha hb hla hlb hn hk
    obtain ⟨k, rfl⟩ : ∃ z, k = z + 1 := ⟨k - 1, by omega⟩
    have hb0 := hb.zero (by omega)
    subst hb0
    unfold exact_common.f
    simp only [exact_common.l0]
    refine ⟨a, rfl, ?_, ha, hla⟩
    show V a = Nat.gcd (V a) 0
    rw [Nat.gcd_zero_right]
  | succ n ih =>
    intro a b k ha hb hla hlb hn hk
    obtain ⟨k, rfl⟩ : ∃ z, k = z + 1 := ⟨k - 1, by omega⟩
    by_cases h0 : b = []
    · subst h0
      unfold exact_common.f
      simp only [exact_common.l0]
      refine ⟨a, rfl, ?_, ha, hla⟩
      show V a = Nat.gcd (V a) 0
      rw [Nat.gcd_zero_right]
    · obtain ⟨q, r, h1, h2, h3, h4, h5, h6, h7⟩ := divide_f a b ha.1 hb h0 hla hlb k (by omega)
      have hbp : 0 < V b := by
        rcases Nat.eq_zero_or_pos (V b) with h | h
        · exact absurd (hb.zero h) h0
        · exact h
      have hrlt : V r < V b := by rw [h3]; exact Nat.mod_lt _ hbp
      obtain ⟨g, g1, g2, g3, g4⟩ := ih b r k hb h5 hlb (by omega) (by omega) (by omega)
      unfold exact_common.f at g1 ⊢
      simp only [exact_common.l0]
      have hz : exact_nat_zero.f b = some false := by
        unfold exact_nat_zero.f
        have : b.length ≠ 0 := fun e => h0 (List.eq_nil_of_length_eq_zero e)
        congr 1
        exact beq_eq_false_iff_ne.2 (by omega)
      rw [hz, Option.bind_some, if_neg (by decide), h1, Option.bind_some]
      refine ⟨g, g1, ?_, g3, g4⟩
      rw [g2, h3, Nat.gcd_comm (V a), Nat.gcd_rec (V b) (V a), Nat.gcd_comm]
end Go.Proofs.YtefhcgnamfnkbaaGreatDoor.Pure
