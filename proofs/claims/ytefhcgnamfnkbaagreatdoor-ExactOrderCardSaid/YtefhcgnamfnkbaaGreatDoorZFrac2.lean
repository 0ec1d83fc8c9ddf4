/- Fractions as the program has them: sums, products, quotients. -/
import Derived.Test.YtefhcgnamfnkbaaGreatDoorZFrac1
import Derived.Test.YtefhcgnamfnkbaaGreatDoorPrx11
namespace Go.Proofs.YtefhcgnamfnkbaaGreatDoor.Pure
open Go.RowKit Go.Proofs.YtefhcgnamfnkbaaGreatDoor.Pr Go.Proofs.YtefhcgnamfnkbaaGreatDoorW.PrintWords Go.Proofs.YtefhcgnamfnkbaaGreatDoorW.PrintLast

/-- A number with its sign. -/
def sv (m : Bool) (n : Nat) : Int := if m = true then -(n : Int) else (n : Int)
theorem sv_abs (m : Bool) (n : Nat) : (sv m n).natAbs = n := by cases m <;> simp [sv]
theorem sv_dec (z : Int) : sv (decide (z < 0)) z.natAbs = z := by
  unfold sv
  by_cases h : z < 0
  · rw [if_pos (decide_eq_true h)]; omega
  · rw [if_neg (by simp [h])]; omega
theorem sv_mul (m m' : Bool) (n n' : Nat) : sv (m != m') (n * n') = sv m n * sv m' n' := by
  have c : ((n * n' : Nat) : Int) = (n : Int) * (n' : Int) := Int.natCast_mul n n'
  cases m <;> cases m'
  · exact c
  · show -((n * n' : Nat) : Int) = (n : Int) * -(n' : Int)
    rw [c, Int.mul_neg]
  · show -((n * n' : Nat) : Int) = -(n : Int) * (n' : Int)
    rw [c, Int.neg_mul]
  · show ((n * n' : Nat) : Int) = -(n : Int) * -(n' : Int)
    rw [c, Int.neg_mul_neg]
theorem text_f (q : List Int) (h : Nrm q) (hl : q.length ≤ 1000000) (k : Nat) : exact_nat_text.f k q = some (B (Lib.decDigits (V q))) := by
  unfold exact_nat_text.f
  rw [if_pos ⟨hl, List.all_eq_true.2 fun d hd => by have := h.1 d hd; simp [this.1, this.2]⟩, text_V q h]
theorem zero_f (q : List Int) (h : Nrm q) : exact_nat_zero.f q = some (decide (V q = 0)) := by
  unfold exact_nat_zero.f
  rw [Option.some.injEq, Bool.eq_iff_iff, beq_iff_eq, decide_eq_true_eq]
  constructor
  · intro e
    have : q = [] := List.eq_nil_of_length_eq_zero (by omega)
    rw [this]; rfl
  · intro e
    rw [h.zero e]; rfl
theorem can_zero (d : Nat) (h : 0 < d) : can (0, d) = (0, 1) := by
  unfold can canN canD
  show ((0 : Int) / ((Nat.gcd 0 d : Nat) : Int), d / Nat.gcd 0 d) = (0, 1)
  rw [Nat.gcd_zero_left, Nat.div_self h, Int.zero_ediv]
theorem can_sign (z : Int) (d : Nat) (h : 0 < d) (hz : z < 0) : (can (z, d)).1 < 0 := by
  have h1 := (can_back z d).1
  have hg := gcd_pos z d h
  show canN z d < 0
  by_cases h2 : canN z d < 0
  · exact h2
  · exfalso
    have : 0 ≤ canN z d * ((Nat.gcd z.natAbs d : Nat) : Int) := Int.mul_nonneg (Int.not_lt.1 h2) (by omega)
    omega
theorem can_nonneg (z : Int) (d : Nat) (_h : 0 < d) (hz : 0 ≤ z) : 0 ≤ (can (z, d)).1 := Int.ediv_nonneg hz (by omega)
/-- What write makes of a number. -/
theorem write_f (m : Bool) (N D : List Int) (hN : Nrm N) (hD : Nrm D) (hlN : N.length ≤ 600000) (hlD : D.length ≤ 600000) (h0 : 0 < V D)
    (h1 : (Lib.decDigits (can (sv m (V N), V D)).1.natAbs).length ≤ 300) (h2 : (denT (can (sv m (V N), V D))).length ≤ 300) (k : Nat) (hk : V D + 2000000000 ≤ k) :
    exact_number_write.f k m N D = some (B (numT (can (sv m (V N), V D))), B (denT (can (sv m (V N), V D))), 0) := by
  obtain ⟨k, rfl⟩ : ∃ z, k = z + 1 := ⟨k - 1, by omega⟩
  unfold exact_number_write.f
  rw [zero_f N hN, Option.bind_some]
  by_cases hz : V N = 0
  · rw [if_pos (decide_eq_true hz), hz]
    have : sv m 0 = 0 := by cases m <;> rfl
    rw [this, can_zero _ h0]
    have e1 : numT (0, 1) = [48] := by
      unfold numT sgL
      show [] ++ Lib.decDigits 0 = [48]
      rw [dec_small 0 (by omega)]; rfl
    have e2 : denT (0, 1) = [49] := by
      unfold denT
      show Lib.decDigits 1 = [49]
      rw [dec_small 1 (by omega)]; rfl
    rw [e1, e2]
  · rw [if_neg (by simp [hz])]
    obtain ⟨g, g1, g2, g3, g4⟩ := common_f (V D) N D (k + 1) hN hD (by omega) (by omega) (Nat.le_refl _) (by omega)
    have hgp : 0 < V g := by rw [g2]; exact Nat.gcd_pos_of_pos_right _ h0
    have hgn : g ≠ [] := fun e => by rw [e] at hgp; exact absurd hgp (Nat.lt_irrefl 0)
    obtain ⟨q, r, q1, q2, _, q4, _, q6, _⟩ := divide_f N g hN.1 g3 hgn (by omega) g4 (k + 1) (by omega)
    obtain ⟨p, s, p1, p2, _, p4, _, p6, _⟩ := divide_f D g hD.1 g3 hgn (by omega) g4 (k + 1) (by omega)
    rw [g1, Option.bind_some, q1, Option.bind_some, p1, Option.bind_some]
    simp only
    rw [text_f q q4 (by omega), Option.bind_some, text_f p p4 (by omega), Option.bind_some, q2, p2, g2]
    have eN : (can (sv m (V N), V D)).1.natAbs = V N / Nat.gcd (V N) (V D) := by
      show (canN (sv m (V N)) (V D)).natAbs = _
      rw [can_abs, sv_abs]
    have eD : (can (sv m (V N), V D)).2 = V D / Nat.gcd (V N) (V D) := by
      show canD (sv m (V N)) (V D) = _
      unfold canD
      rw [sv_abs]
    unfold denT at h2 ⊢
    rw [← eN, ← eD, if_neg (by rw [B_size]; omega), decide_eq_false (show ¬ ((B (Lib.decDigits (can (sv m (V N), V D)).2)).size : Int) > 300 by rw [B_size]; omega)]
    simp only [exact_number_write.j0, Bool.false_eq_true, if_false]
    unfold numT sgL
    cases m with
    | true =>
      have hneg : (can (sv true (V N), V D)).1 < 0 := can_sign _ _ h0 (by show -((V N : Nat) : Int) < 0; omega)
      rw [if_pos rfl, if_pos (by rw [B_size]; omega), if_pos hneg]
      have : (⟨#[45]⟩ : ByteArray) ++ B (Lib.decDigits (can (sv true (V N), V D)).1.natAbs) = B ([45] ++ Lib.decDigits (can (sv true (V N), V D)).1.natAbs) := B_of (by simp)
      rw [this]
    | false =>
      have hnn : 0 ≤ (can (sv false (V N), V D)).1 := can_nonneg _ _ h0 (by show (0 : Int) ≤ ((V N : Nat) : Int); omega)
      rw [if_neg (by decide), if_neg (by omega), List.nil_append]
/-- The sum of two numbers. -/
theorem sum_f (m1 m2 : Bool) (N1 D1 N2 D2 : List Int) (h1 : Nrm N1) (h2 : Nrm D1) (h3 : Nrm N2) (h4 : Nrm D2) (l1 : N1.length ≤ 1000) (l2 : D1.length ≤ 1000) (l3 : N2.length ≤ 1000) (l4 : D2.length ≤ 1000) (k : Nat) (hk : 20000000 ≤ k) :
    ∃ (m : Bool) (N D : List Int), exact_sum.f k m1 N1 D1 m2 N2 D2 = some (m, N, D) ∧ sv m (V N) = sv m1 (V N1) * (V D2 : Int) + sv m2 (V N2) * (V D1 : Int) ∧ V D = V D1 * V D2 ∧ Nrm N ∧ Nrm D ∧ N.length ≤ 5000 ∧ D.length ≤ 5000 := by
  have fu : ∀ a b : Nat, a ≤ 1000 → b ≤ 1000 → a * (b + 2) + a + b + 5 ≤ k := by
    intro a b ha hb
    have := Nat.mul_le_mul ha (show b + 2 ≤ 1002 by omega)
    omega
  obtain ⟨p, p1, p2, p3, p4⟩ := times_f N1 D2 h1.1 h4.1 (by omega) (by omega) k (fu _ _ l1 l4)
  obtain ⟨q, q1, q2, q3, q4⟩ := times_f N2 D1 h3.1 h2.1 (by omega) (by omega) k (fu _ _ l3 l2)
  obtain ⟨d, d1, d2, d3, d4⟩ := times_f D1 D2 h2.1 h4.1 (by omega) (by omega) k (fu _ _ l2 l4)
  unfold exact_sum.f
  rw [p1, Option.bind_some, q1, Option.bind_some, d1, Option.bind_some]
  have cast : ∀ a b : Nat, ((a * b : Nat) : Int) = (a : Int) * (b : Int) := fun a b => Int.natCast_mul a b
  by_cases hm : m1 = m2
  · subst hm
    obtain ⟨s, s1, s2, s3, s4⟩ := plus_f p q p3 q3 (by omega) (by omega) k (by omega)
    rw [if_pos (by simp), s1, Option.bind_some]
    refine ⟨m1, s, d, rfl, ?_, d2, s3, d3, by omega, by omega⟩
    rw [s2, p2, q2]
    cases m1
    · simp only [sv, Bool.false_eq_true, if_false]; rw [Int.natCast_add, cast, cast]
    · simp only [sv, if_true]; rw [Int.natCast_add, cast, cast, Int.neg_mul, Int.neg_mul, Int.neg_add]
  · rw [if_neg (by simp [hm])]
    obtain ⟨c, c1, c2, c3⟩ := compare_f p q p3 q3 (by omega) (by omega) k (by omega)
    rw [c1, Option.bind_some]
    by_cases hc : c ≥ 0
    · have hle : V q ≤ V p := by
        rcases Nat.lt_or_ge (V p) (V q) with h | h
        · have := c3.2 h; omega
        · exact h
      obtain ⟨s, s1, s2, s3, s4⟩ := minus_f p q p3 q3 (by omega) hle k (by omega)
      rw [if_pos hc, s1, Option.bind_some]
      refine ⟨m1, s, d, rfl, ?_, d2, s3, d3, by omega, by omega⟩
      rw [s2]
      have e : ((V p - V q : Nat) : Int) = (V p : Int) - (V q : Int) := Int.ofNat_sub hle
      rw [p2, q2, cast, cast] at e
      cases m1 <;> cases m2
      · exact absurd rfl hm
      · simp only [sv, Bool.false_eq_true, if_false, if_true]
        rw [p2, q2, e, Int.neg_mul, Int.sub_eq_add_neg]
      · simp only [sv, Bool.false_eq_true, if_false, if_true]
        rw [p2, q2, e, Int.neg_mul, Int.neg_sub, Int.sub_eq_add_neg, Int.add_comm]
      · exact absurd rfl hm
    · have hle : V p ≤ V q := Nat.le_of_lt (c3.1 (by omega))
      obtain ⟨s, s1, s2, s3, s4⟩ := minus_f q p q3 p3 (by omega) hle k (by omega)
      rw [if_neg hc, s1, Option.bind_some]
      refine ⟨m2, s, d, rfl, ?_, d2, s3, d3, by omega, by omega⟩
      rw [s2]
      have e : ((V q - V p : Nat) : Int) = (V q : Int) - (V p : Int) := Int.ofNat_sub hle
      rw [p2, q2, cast, cast] at e
      cases m1 <;> cases m2
      · exact absurd rfl hm
      · simp only [sv, Bool.false_eq_true, if_false, if_true]
        rw [p2, q2, e, Int.neg_mul, Int.neg_sub, Int.sub_eq_add_neg]
      · simp only [sv, Bool.false_eq_true, if_false, if_true]
        rw [p2, q2, e, Int.neg_mul, Int.sub_eq_add_neg, Int.add_comm]
      · exact absurd rfl hm
end Go.Proofs.YtefhcgnamfnkbaaGreatDoor.Pure
