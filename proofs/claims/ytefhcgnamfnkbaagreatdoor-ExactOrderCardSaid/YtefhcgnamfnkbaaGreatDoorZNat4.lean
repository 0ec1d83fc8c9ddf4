/- Natural numbers in the base 10^9: digit, divide, common. -/
import Derived.Test.YtefhcgnamfnkbaaGreatDoorZNat3
namespace Go.Proofs.YtefhcgnamfnkbaaGreatDoor.Pure
open Go.RowKit Go.Proofs.YtefhcgnamfnkbaaGreatDoor.Pr Go.Proofs.YtefhcgnamfnkbaaGreatDoorW.PrintWords Go.Proofs.YtefhcgnamfnkbaaGreatDoorW.PrintLast

theorem trim_one (m : Nat) : trimL [(m : Int)] = if m = 0 then [] else [(m : Int)] := by
  have := trim_snoc [] (m : Int)
  rw [List.nil_append] at this
  rw [this]
  by_cases h : m = 0
  · rw [if_pos (by omega), if_pos h, trim_nil]
  · rw [if_neg (by omega), if_neg h]
theorem V_one (m : Nat) : V [(m : Int)] = m := by simp [V]
theorem bs_pos : 0 < Bs := by rw [Bs_eq]; decide
/-- The search between two bounds. -/
theorem mid_ok (low top : Nat) (h : low < top) (ht : top < 1000000000) :
    ∃ m : Nat, IntKind.u64.wrap (Int.tdiv (IntKind.u64.wrap (IntKind.u64.wrap ((low : Int) + (top : Int)) + 1)) 2) = (m : Int) ∧ (m : Int) % 4294967296 = (m : Int) ∧ IntKind.u64.wrap ((m : Int) - 1) = ((m - 1 : Nat) : Int) ∧ low < m ∧ m ≤ top ∧ m < 1000000000 := by
  refine ⟨(low + top + 1) / 2, ?_, by omega, ?_, by omega, by omega, by omega⟩
  · have e1 : (low : Int) + (top : Int) = ((low + top : Nat) : Int) := by omega
    rw [e1, u64_nat _ (by omega)]
    have e2 : ((low + top : Nat) : Int) + 1 = ((low + top + 1 : Nat) : Int) := by omega
    rw [e2, u64_nat _ (by omega), Int.tdiv_eq_ediv_of_nonneg (by omega)]
    have e3 : ((low + top + 1 : Nat) : Int) / 2 = (((low + top + 1) / 2 : Nat) : Int) := by omega
    rw [e3, u64_nat _ (by omega)]
  · have e1 : ((((low + top + 1) / 2 : Nat) : Int)) - 1 = (((low + top + 1) / 2 - 1 : Nat) : Int) := by omega
    rw [e1, u64_nat _ (by omega)]
theorem digit_l1 (r b : List Int) (hr : Nrm r) (hb : Nrm b) (hlr : r.length ≤ 900000) (hlb : b.length ≤ 900000) (q : Nat) (hq : q = V r / V b) (hbp : 0 < V b) (n : Nat) : ∀ (k low top : Nat),
    top ≤ low + n → n + 4 * b.length + 20 ≤ k → low ≤ q → q ≤ top → top < 1000000000 → exact_digit.l1 k r b (low : Int) (top : Int) = some (q : Int) := by
  induction n with
  | zero =>
    intro k low top h1 hk h2 h3 h4
    obtain ⟨k, rfl⟩ : ∃ z, k = z + 1 := ⟨k - 1, by omega⟩
    simp only [exact_digit.l1]
    rw [if_neg (by omega)]
    congr 1; omega
  | succ n ih =>
    intro k low top h1 hk h2 h3 h4
    obtain ⟨k, rfl⟩ : ∃ z, k = z + 1 := ⟨k - 1, by omega⟩
    simp only [exact_digit.l1]
    by_cases hlt : low < top
    · obtain ⟨m, e1, e2, e3, e4, e5, e6⟩ := mid_ok low top hlt h4
      rw [if_pos (by omega), e1, e2, e3]
      have ht : trimL [(m : Int)] = [(m : Int)] := by rw [trim_one, if_neg (by omega)]
      rw [trim_f [(m : Int)] k (by simp; omega) (by simp), ht, Option.bind_some]
      obtain ⟨p, p1, p2, p3, p4⟩ := times_f b [(m : Int)] hb.1 (Dig.one (by omega)) (by omega) (by simp) k (by simp only [List.length_singleton]; omega)
      rw [p1, Option.bind_some]
      rw [List.length_singleton] at p4
      obtain ⟨c, c1, c2, c3⟩ := compare_f p r p3 hr (by omega) (by omega) k (by omega)
      rw [c1, Option.bind_some]
      rw [p2, V_one] at c2 c3
      have hm : c ≤ 0 ↔ m ≤ q := by
        rw [hq, Nat.le_div_iff_mul_le hbp, Nat.mul_comm m]
        constructor
        · intro h
          rcases Int.lt_or_eq_of_le h with h | h
          · exact Nat.le_of_lt (c3.1 h)
          · exact Nat.le_of_eq (c2.1 h)
        · intro h
          rcases Nat.lt_or_eq_of_le h with h | h
          · have := c3.2 h; omega
          · have := c2.2 h; omega
      by_cases hc : c ≤ 0
      · rw [if_pos hc]
        exact ih k m top (by omega) (by omega) (hm.1 hc) h3 h4
      · rw [if_neg hc]
        have : ¬ m ≤ q := fun h => hc (hm.2 h)
        exact ih k low (m - 1) (by omega) (by omega) h2 (by omega) (by omega)
    · rw [if_neg (by omega)]
      congr 1; omega
theorem high_step (h x : Nat) (hh : h < 1000000000) (hx : x < 1000000000) : IntKind.u64.wrap (IntKind.u64.wrap ((h : Int) * 1000000000) + IntKind.u64.wrap (x : Int)) = ((x + Bs * h : Nat) : Int) := by
  have e1 : (h : Int) * 1000000000 = ((h * 1000000000 : Nat) : Int) := by omega
  rw [e1, u64_nat _ (by omega), u64_nat _ (by omega)]
  have e2 : ((h * 1000000000 : Nat) : Int) + (x : Int) = ((x + Bs * h : Nat) : Int) := by rw [Bs_eq]; omega
  rw [e2, u64_nat _ (by rw [Bs_eq]; omega)]
theorem wr_m1 (n : Nat) (h : n ≤ 4000000) : wrap64 ((n : Int) - 1) = (n : Int) - 1 := by unfold wrap64; omega
theorem first_digit (r : List Int) (hr : Dig r) (i : Nat) (h : r.length ≤ i + 1) : V (r.drop i) < 1000000000 := by
  have := V_lt (hr.drop i)
  have h2 : (r.drop i).length ≤ 1 := by rw [List.length_drop]; omega
  have h3 : Bs ^ (r.drop i).length ≤ Bs ^ 1 := Nat.pow_le_pow_right bs_pos h2
  rw [Nat.pow_one] at h3
  have hB := Bs_eq
  omega
theorem digit_l0 (r b : List Int) (hr : Dig r) (hlr : r.length ≤ 900000) (kk : Nat) (hk2 : r.length ≤ kk + 2) (d : Nat) : ∀ k : Nat, kk + d ≤ r.length →
    exact_digit.l0 (d + 1 + k) r b (kk : Int) ((V (r.drop (kk + d)) : Nat) : Int) (((kk + d : Nat) : Int) - 1) = exact_digit.l0 (1 + k) r b (kk : Int) ((V (r.drop kk) : Nat) : Int) ((kk : Int) - 1) := by
  induction d with
  | zero => intro k _; rfl
  | succ d ih =>
    intro k h
    have hx : rd r ((kk + d : Nat) : Int) = (dg r (kk + d) : Int) := by
      have := dg_rd hr (kk + d)
      rw [if_pos (by omega)] at this
      exact this
    rw [show d + 1 + 1 + k = (d + 1 + k) + 1 by omega]
    have e : (((kk + (d + 1) : Nat) : Int) - 1) = ((kk + d : Nat) : Int) := by omega
    rw [e]
    conv => lhs; simp only [exact_digit.l0]
    rw [if_pos (by omega), if_pos (by omega), if_pos (by omega), hx, high_step _ _ (first_digit r hr (kk + (d + 1)) (by omega)) (dg_lt hr _), wr_m1 _ (by omega)]
    rw [show kk + (d + 1) = kk + d + 1 by omega, ← V_drop]
    exact ih k (by omega)
theorem wrap_div (H t : Nat) (hH : H < 1000000000000000000) (ht : 0 < t) (ht2 : t < 1000000000) :
    IntKind.u64.wrap (t : Int) = (t : Int) ∧ IntKind.u64.wrap ((t : Int) + 1) = ((t + 1 : Nat) : Int) ∧ IntKind.u64.wrap (Int.tdiv (H : Int) ((t + 1 : Nat) : Int)) = ((H / (t + 1) : Nat) : Int) ∧ IntKind.u64.wrap (Int.tdiv (H : Int) (t : Int)) = ((H / t : Nat) : Int) := by
  have d1 : H / (t + 1) ≤ H := Nat.div_le_self _ _
  have d2 : H / t ≤ H := Nat.div_le_self _ _
  refine ⟨u64_nat _ (by omega), ?_, ?_, ?_⟩
  · have : (t : Int) + 1 = ((t + 1 : Nat) : Int) := by omega
    rw [this, u64_nat _ (by omega)]
  · rw [Int.tdiv_eq_ediv_of_nonneg (by omega), ← Int.natCast_ediv, u64_nat _ (by omega)]
  · rw [Int.tdiv_eq_ediv_of_nonneg (by omega), ← Int.natCast_ediv, u64_nat _ (by omega)]
theorem mn_nat (x : Nat) : mn (x : Int) 999999999 = ((min x 999999999 : Nat) : Int) := by
  unfold mn
  rw [Nat.min_def]
  split <;> split <;> omega
/-- The digit of a quotient. -/
theorem digit_f (r b : List Int) (hr : Nrm r) (hb : Nrm b) (h0 : b ≠ []) (hlr : r.length ≤ 900000) (hlb : b.length ≤ 800000) (hlt : V r < V b * Bs) (k : Nat) (hk : 1000000000 + 5 * b.length + 100 ≤ k) :
    exact_digit.f k r b = some ((V r / V b : Nat) : Int) := by
  have hbl : 1 ≤ b.length := List.length_pos_iff.2 h0
  have hbp : 0 < V b := by
    rcases Nat.eq_zero_or_pos (V b) with h | h
    · exact absurd (hb.zero h) h0
    · exact h
  obtain ⟨kk, hkk⟩ : ∃ kk, b.length = kk + 1 := ⟨b.length - 1, by omega⟩
  have hrl : r.length ≤ kk + 2 := by
    rcases Nat.lt_or_ge (kk + 2) r.length with h | h
    · exfalso
      have g1 := V_pos_len hr (by intro e; rw [e] at h; simp at h)
      have g2 := V_lt hb.1
      rw [hkk] at g2
      have g3 : Bs ^ (kk + 2) ≤ Bs ^ (r.length - 1) := Nat.pow_le_pow_right bs_pos (by omega)
      have g4 : V b * Bs ≤ Bs ^ (kk + 1) * Bs := Nat.mul_le_mul_right _ (Nat.le_of_lt g2)
      rw [show kk + 2 = (kk + 1) + 1 by omega, Nat.pow_succ] at g3
      omega
    · exact h
  unfold exact_digit.f
  obtain ⟨c, c1, c2, c3⟩ := compare_f r b hr hb (by omega) (by omega) k (by omega)
  rw [c1, Option.bind_some]
  by_cases hc : c < 0
  · rw [if_pos hc, Nat.div_eq_of_lt (c3.1 hc)]; rfl
  · rw [if_neg hc]
    have hge : V b ≤ V r := by
      rcases Nat.lt_or_ge (V r) (V b) with h | h
      · exact absurd (c3.2 h) hc
      · exact h
    have hrl2 : kk + 1 ≤ r.length := by
      rcases Nat.lt_or_ge r.length (kk + 1) with h | h
      · have := V_len_lt hr hb (by omega); omega
      · exact h
    obtain ⟨d, hd⟩ : ∃ d, r.length = kk + d := ⟨r.length - kk, by omega⟩
    have hd2 : d ≤ 2 := by omega
    obtain ⟨K, hK⟩ : ∃ K, k = d + 1 + (K + 1) := ⟨k - d - 2, by omega⟩
    have hl0 := digit_l0 r b hr.1 hlr kk hrl d (K + 1) (by omega)
    rw [← hd, List.drop_length] at hl0
    have e1 : wrap64 ((b.length : Int) - 1) = (kk : Int) := by rw [wr_m1 _ (by omega)]; omega
    have e2 : wrap64 ((r.length : Int) - 1) = (r.length : Int) - 1 := wr_m1 _ (by omega)
    rw [e1, e2, hK]
    rw [show ((V ([] : List Int) : Nat) : Int) = 0 from rfl] at hl0
    rw [hl0, show 1 + (K + 1) = (K + 1) + 1 by omega]
    -- the leading digits
    obtain ⟨H, hH⟩ : ∃ H, H = V (r.drop kk) := ⟨_, rfl⟩
    obtain ⟨t, ht⟩ : ∃ t, t = dg b kk := ⟨_, rfl⟩
    have htp : t ≠ 0 := by
      have := last_dg hb h0
      rw [hkk, Nat.add_sub_cancel, ← ht] at this
      exact this
    have htl : t < 1000000000 := by rw [ht]; exact dg_lt hb.1 kk
    have hHl : H < 1000000000000000000 := by
      have g1 := V_lt (hr.1.drop kk)
      have g2 : (r.drop kk).length ≤ 2 := by rw [List.length_drop]; omega
      have g3 : Bs ^ (r.drop kk).length ≤ Bs ^ 2 := Nat.pow_le_pow_right bs_pos g2
      rw [← hH] at g1
      have g4 : Bs ^ 2 = 1000000000000000000 := by rw [Bs_eq]
      omega
    have hrd : rd b (kk : Int) = (t : Int) := by
      have := dg_rd hb.1 kk
      rw [if_pos (by omega), ← ht] at this
      exact this
    rw [← hH]
    obtain ⟨w1, w2, w3, w4⟩ := wrap_div H t hHl (by omega) htl
    simp only [exact_digit.l0]
    rw [if_neg (by omega), if_pos (by omega), if_pos (by omega), hrd, w1, w2, if_neg (by omega), if_neg (by omega), w3, w4, mn_nat]
    -- the bounds
    have hP : 0 < Bs ^ kk := Nat.pow_pos bs_pos
    have vb := V_two b kk
    have vb2 : V (b.drop kk) = t := by
      rw [V_drop, List.drop_of_length_le (by omega), ← ht]; simp [V]
    have vb3 := V_lt (hb.1.take kk)
    rw [List.length_take, Nat.min_eq_left (by omega)] at vb3
    have vr := V_two r kk
    have vr3 := V_lt (hr.1.take kk)
    rw [List.length_take, Nat.min_eq_left (by omega)] at vr3
    rw [vb2] at vb
    rw [← hH] at vr
    obtain ⟨P, hPe⟩ : ∃ P, P = Bs ^ kk := ⟨_, rfl⟩
    rw [← hPe] at hP vb vb3 vr vr3
    have hq1 : H / (t + 1) ≤ V r / V b := by
      rw [Nat.le_div_iff_mul_le hbp]
      have g1 : V b ≤ P * (t + 1) := by rw [vb, Nat.mul_add]; omega
      have g2 : H / (t + 1) * V b ≤ H / (t + 1) * (P * (t + 1)) := Nat.mul_le_mul_left _ g1
      have g3 : H / (t + 1) * (P * (t + 1)) = P * (H / (t + 1) * (t + 1)) := by rw [Nat.mul_left_comm]
      have g4 : P * (H / (t + 1) * (t + 1)) ≤ P * H := Nat.mul_le_mul_left _ (Nat.div_mul_le_self _ _)
      omega
    have hq2 : V r / V b ≤ H / t := by
      rw [Nat.le_div_iff_mul_le (by omega)]
      have g1 : V r / V b * V b ≤ V r := Nat.div_mul_le_self _ _
      have g2 : V r / V b * (P * t) ≤ V r / V b * V b := Nat.mul_le_mul_left _ (by rw [vb]; omega)
      have g3 : P * (V r / V b * t) < P * (H + 1) := by
        rw [Nat.mul_left_comm P, Nat.mul_add]
        omega
      have := Nat.lt_of_mul_lt_mul_left g3
      omega
    have hq3 : V r / V b < Bs := by
      rw [Nat.div_lt_iff_lt_mul hbp, Nat.mul_comm]; exact hlt
    rw [Bs_eq] at hq3
    refine digit_l1 r b hr hb hlr (by omega) (V r / V b) rfl hbp 1000000000 _ _ _ ?_ ?_ hq1 ?_ ?_
    · have h1 : min (H / t) 999999999 ≤ 999999999 := Nat.min_le_right _ _
      exact Nat.le_trans h1 (Nat.le_trans (by decide) (Nat.le_add_left _ _))
    · omega
    · rw [Nat.le_min]; exact ⟨hq2, by omega⟩
    · have : min (H / t) 999999999 ≤ 999999999 := Nat.min_le_right _ _
      omega
end Go.Proofs.YtefhcgnamfnkbaaGreatDoor.Pure
