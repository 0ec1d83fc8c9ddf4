/- ExactRoots in numbers. -/
import Derived.Test.YtefhcgnamfnkbaaGreatDoorPn
import Derived.Test.YtefhcgnamfnkbaaGreatDoorPureFew
import Derived.Test.YtefhcgnamfnkbaaGreatDoorPureCmp
import Derived.Test.YtefhcgnamfnkbaaGreatDoorRootsOps
namespace Go.Proofs.YtefhcgnamfnkbaaGreatDoor.Pure
open Go.RowKit Go.Proofs.YtefhcgnamfnkbaaGreatDoor.Pr Go.Proofs.YtefhcgnamfnkbaaGreatDoorW.PrintWords Go.Proofs.YtefhcgnamfnkbaaGreatDoorW.PrintLast

theorem rstrhasp (l : List UInt8) : strings_HasPrefix.f (B l) ⟨#[45]⟩ = some (decide (l.head? = some 45)) := by
  unfold strings_HasPrefix.f
  rw [hasp45]; rfl
theorem rhead_neg (x : Q) : (numT x).head? = some 45 ↔ x.1 < 0 := by
  unfold numT sgL
  by_cases h : x.1 < 0
  · rw [if_pos h]; simp [h]
  · rw [if_neg h, List.nil_append]
    exact ⟨fun e => absurd e (dec_no45 _), fun e => absurd e h⟩
/-- Numbers over one denominator, in lowest terms, keep their order. -/
theorem can_le_can (z w : Int) (p : Nat) (hp : 0 < p) (h : z ≤ w) : (can (z, p)).1 * ((can (w, p)).2 : Int) ≤ (can (w, p)).1 * ((can (z, p)).2 : Int) := by
  have e1 : (can (z, p)).1 * (p : Int) = z * ((can (z, p)).2 : Int) := can_cross z p
  have e2 : (can (w, p)).1 * (p : Int) = w * ((can (w, p)).2 : Int) := can_cross w p
  have hpp : (0 : Int) < (p : Int) := by omega
  refine Int.le_of_mul_le_mul_right ?_ hpp
  have h1 : (can (z, p)).1 * ((can (w, p)).2 : Int) * (p : Int) = z * (((can (z, p)).2 : Int) * ((can (w, p)).2 : Int)) := by
    rw [Int.mul_right_comm, e1, Int.mul_assoc]
  have h2 : (can (w, p)).1 * ((can (z, p)).2 : Int) * (p : Int) = w * (((can (z, p)).2 : Int) * ((can (w, p)).2 : Int)) := by
    rw [Int.mul_right_comm, e2, Int.mul_assoc, Int.mul_comm ((can (w, p)).2 : Int)]
  rw [h1, h2]
  exact Int.mul_le_mul_of_nonneg_right h (Int.mul_nonneg (by omega) (by omega))
theorem cmp_can (R S p : Nat) (hp : 0 < p) : (R ≤ S → qcmp (can (sv false R, p)) (can (sv false S, p)) ≤ 0) ∧ (S ≤ R → 0 ≤ qcmp (can (sv false R, p)) (can (sv false S, p))) := by
  constructor
  · intro h
    have := can_le_can (sv false R) (sv false S) p hp (by show (R : Int) ≤ (S : Int); omega)
    unfold qcmp
    split
    · exact Int.le_refl _
    · split
      · decide
      · omega
  · intro h
    have := can_le_can (sv false S) (sv false R) p hp (by show (S : Int) ≤ (R : Int); omega)
    unfold qcmp
    split
    · exact Int.le_refl _
    · split
      · omega
      · decide
theorem div_mono (na da nb db T : Nat) (hda : 0 < da) (hdb : 0 < db) (h : na * db ≤ nb * da) : na * T / da ≤ nb * T / db := by
  rw [Nat.le_div_iff_mul_le hdb]
  have h1 : na * T / da * da ≤ na * T := Nat.div_mul_le_self _ _
  refine Nat.le_of_mul_le_mul_right ?_ hda
  have h2 := Nat.mul_le_mul_right db h1
  have h3 := Nat.mul_le_mul_right T h
  have e1 : na * T / da * da * db = na * T / da * db * da := Nat.mul_right_comm _ _ _
  have e2 : na * T * db = na * db * T := Nat.mul_right_comm _ _ _
  have e3 : nb * da * T = nb * T * da := Nat.mul_right_comm _ _ _
  omega
/-- The root of the square of a rounded number. -/
theorem root_of_square (Z p : Nat) (hp : 0 < p) (R : Nat) (h : IsRoot R ((qMul (can (sv false Z, p)) (can (sv false Z, p))).1.natAbs * (p * p) / (qMul (can (sv false Z, p)) (can (sv false Z, p))).2)) : R = Z := by
  have hr : qEq (can (sv false Z, p)) (sv false Z, p) := can_eq _
  have hpos : 0 < (can (sv false Z, p)).2 := (can_qLow (sv false Z, p) hp).1
  have e1 : qEq (rMul (can (sv false Z, p)) (can (sv false Z, p))) (rMul (sv false Z, p) (can (sv false Z, p))) := mul_eq hr
  have e2 : qEq (rMul (can (sv false Z, p)) (sv false Z, p)) (rMul (sv false Z, p) (sv false Z, p)) := mul_eq hr
  rw [mul_comm' (can (sv false Z, p)) (sv false Z, p)] at e2
  have e3 : qEq (qMul (can (sv false Z, p)) (can (sv false Z, p))) (rMul (sv false Z, p) (sv false Z, p)) :=
    qEq.trans (Nat.mul_pos hpos hpos) (can_eq _) (qEq.trans (Nat.mul_pos hp hpos) e1 e2)
  have hd : 0 < (qMul (can (sv false Z, p)) (can (sv false Z, p))).2 := (can_qLow (rMul _ _) (Nat.mul_pos hpos hpos)).1
  generalize qMul (can (sv false Z, p)) (can (sv false Z, p)) = s at h e3 hd
  have e4 : s.1 * ((p * p : Nat) : Int) = ((Z : Int) * (Z : Int)) * (s.2 : Int) := e3
  have e5 : s.1.natAbs * (p * p) = Z * Z * s.2 := by
    have := congrArg Int.natAbs e4
    rw [Int.natAbs_mul, Int.natAbs_mul, Int.natAbs_mul, Int.natAbs_natCast, Int.natAbs_natCast, Int.natAbs_natCast] at this
    exact this
  rw [e5, Nat.mul_div_cancel _ hd] at h
  exact root_unique h (root_square Z)
theorem pow2 (n : Nat) : 10 ^ (2 * n) = 10 ^ n * 10 ^ n := by rw [← Nat.pow_add]; congr 1; omega
theorem roots_ops (a b : Q) (ha : Sz (10 ^ 40) a) (hb : Sz (10 ^ 40) b) (a0 : 0 ≤ a.1) (b0 : 0 ≤ b.1) (n : Int) : ∃ K, ∀ k, K ≤ k → ∃ r0 r1 s0 s1 x0 x1 y0 y1 j c d, RootsOps k (nt a) (dt a) (nt b) (dt b) n r0 r1 s0 s1 x0 x1 y0 y1 j c d := by
  obtain ⟨j, hm, hj⟩ := mod_num n 12 (by decide) (by decide)
  have hna : neg a = false := decide_eq_false (by omega)
  have hp : 0 < 10 ^ j := Nat.pow_pos (by decide)
  have fa := fit_of ha (by decide +kernel)
  have fb := fit_of hb (by decide +kernel)
  obtain ⟨K6, h6⟩ := round_num a ha j (by omega)
  rw [hna] at h6
  -- the rounded number
  have hz : near a j ≤ 10 ^ 52 := by
    have h1 := near_lt ha j
    exact Nat.le_trans (Nat.le_of_lt h1) (Nat.pow_le_pow_right (by decide) (by omega))
  have sr : Sz (10 ^ 52) (can (sv false (near a j), 10 ^ j)) := can_sz _ _ hp (by rw [sv_abs]; exact hz) (Nat.pow_le_pow_right (by decide) (by omega))
  have fr := fit_of sr (by decide +kernel)
  have ss := mul_sz sr sr
  have ss2 : Sz (10 ^ 120) (qMul (can (sv false (near a j), 10 ^ j)) (can (sv false (near a j), 10 ^ j))) := sz_mono ss (by decide +kernel)
  have fs := fit_of ss (by decide +kernel)
  obtain ⟨K7, h7⟩ := mul_num _ _ sr.1 sr.1 fr fr fs
  have hs0 : 0 ≤ (qMul (can (sv false (near a j), 10 ^ j)) (can (sv false (near a j), 10 ^ j))).1 := by
    have hn : 0 ≤ (can (sv false (near a j), 10 ^ j)).1 := can_nonneg _ _ hp (by show (0 : Int) ≤ ((near a j : Nat) : Int); omega)
    have hq : 0 < (can (sv false (near a j), 10 ^ j)).2 := sr.1.1
    exact can_nonneg _ _ (Nat.mul_pos hq hq) (Int.mul_nonneg hn hn)
  obtain ⟨K8, h8⟩ := sqrt_num _ ss2 hs0 j (by omega)
  obtain ⟨K9, h9⟩ := sqrt_num a (sz_mono ha (by decide +kernel)) a0 j (by omega)
  obtain ⟨K10, h10⟩ := sqrt_num b (sz_mono hb (by decide +kernel)) b0 j (by omega)
  obtain ⟨K11, h11⟩ := compare_num a b ha.1 hb.1 fa fb
  -- the roots have few digits
  have hroot : ∀ x : Q, Sz (10 ^ 40) x → ∀ R, IsRoot R (x.1.natAbs * 10 ^ (2 * j) / x.2) → R ≤ 10 ^ 62 := by
    intro x hx R hR
    have a1 : R ≤ R * R := by
      rcases Nat.eq_zero_or_pos R with h | h
      · rw [h]; decide
      · exact Nat.le_mul_of_pos_left _ h
    have a2 : x.1.natAbs * 10 ^ (2 * j) / x.2 ≤ 10 ^ 40 * 10 ^ (2 * j) := Nat.le_trans (Nat.div_le_self _ _) (Nat.mul_le_mul_right _ hx.2.1)
    rw [← Nat.pow_add] at a2
    exact Nat.le_trans (Nat.le_trans (Nat.le_trans a1 hR.1) a2) (Nat.pow_le_pow_right (by decide) (by omega))
  obtain ⟨Ra, hRa⟩ := root_exists (a.1.natAbs * 10 ^ (2 * j) / a.2)
  obtain ⟨Rb, hRb⟩ := root_exists (b.1.natAbs * 10 ^ (2 * j) / b.2)
  have sx : Sz (10 ^ 62) (can (sv false Ra, 10 ^ j)) := can_sz _ _ hp (by rw [sv_abs]; exact hroot a ha Ra hRa) (Nat.pow_le_pow_right (by decide) (by omega))
  have sy : Sz (10 ^ 62) (can (sv false Rb, 10 ^ j)) := can_sz _ _ hp (by rw [sv_abs]; exact hroot b hb Rb hRb) (Nat.pow_le_pow_right (by decide) (by omega))
  obtain ⟨K12, h12⟩ := compare_num _ _ sx.1 sy.1 (fit_of sx (by decide +kernel)) (fit_of sy (by decide +kernel))
  have hda := ha.1.1
  have hdb := hb.1.1
  have za : a.1 = (a.1.natAbs : Int) := by omega
  have zb : b.1 = (b.1.natAbs : Int) := by omega
  refine ⟨K6 + K7 + K8 + K9 + K10 + K11 + K12, fun k hk => ?_⟩
  obtain ⟨R8, g8, e8⟩ := h8 k (by omega)
  obtain ⟨R9, g9, e9⟩ := h9 k (by omega)
  obtain ⟨R10, g10, e10⟩ := h10 k (by omega)
  rw [pow2] at g8
  have q8 := root_of_square (near a j) (10 ^ j) hp R8 g8
  rw [q8] at e8
  rw [root_unique g9 hRa] at e9
  rw [root_unique g10 hRb] at e10
  refine ⟨nt (can (sv false (near a j), 10 ^ j)), dt (can (sv false (near a j), 10 ^ j)), nt (qMul (can (sv false (near a j), 10 ^ j)) (can (sv false (near a j), 10 ^ j))), dt (qMul (can (sv false (near a j), 10 ^ j)) (can (sv false (near a j), 10 ^ j))), nt (can (sv false Ra, 10 ^ j)), dt (can (sv false Ra, 10 ^ j)), nt (can (sv false Rb, 10 ^ j)), dt (can (sv false Rb, 10 ^ j)), j, qcmp a b, qcmp (can (sv false Ra, 10 ^ j)) (can (sv false Rb, 10 ^ j)), ?_⟩
  refine ⟨hm, by omega, h6 k (by omega), h7 k (by omega), e8, e9, e10, h11 k (by omega), h12 k (by omega), ?_, ?_⟩
  · intro hc
    refine (cmp_can Ra Rb (10 ^ j) hp).2 (root_mono hRb hRa (div_mono _ _ _ _ _ hdb hda ?_))
    have h1 : ¬ a.1 * (b.2 : Int) < b.1 * (a.2 : Int) := by
      intro hlt
      unfold qcmp at hc
      split at hc
      · omega
      · first
          | (split at hc <;> omega)
          | omega
    rw [za, zb] at h1
    have h2 : ((b.1.natAbs * a.2 : Nat) : Int) ≤ ((a.1.natAbs * b.2 : Nat) : Int) := by
      rw [Int.natCast_mul, Int.natCast_mul]; omega
    omega
  · intro hc
    refine (cmp_can Ra Rb (10 ^ j) hp).1 (root_mono hRa hRb (div_mono _ _ _ _ _ hda hdb ?_))
    have h1 : a.1 * (b.2 : Int) < b.1 * (a.2 : Int) := by
      unfold qcmp at hc
      split at hc
      · omega
      · split at hc
        · assumption
        · omega
    rw [za, zb] at h1
    have h2 : ((a.1.natAbs * b.2 : Nat) : Int) ≤ ((b.1.natAbs * a.2 : Nat) : Int) := by
      rw [Int.natCast_mul, Int.natCast_mul]; omega
    omega
theorem roots_pure (a0 a1 b0 b1 : ByteArray) (n : Int) (la0 : a0.size ≤ 9223372036854775807) (la1 : a1.size ≤ 9223372036854775807) (lb0 : b0.size ≤ 9223372036854775807) (lb1 : b1.size ≤ 9223372036854775807) :
    ∃ k fw, chancerykeep2_few.f k [⟨a0, a1⟩, ⟨b0, b1⟩] = some fw ∧ (fw = true → ∃ pa pb, strings_HasPrefix.f a0 ⟨#[45]⟩ = some pa ∧ strings_HasPrefix.f b0 ⟨#[45]⟩ = some pb ∧ (pa = false → pb = false → ∃ r0 r1 s0 s1 x0 x1 y0 y1 j c d, RootsOps k a0 a1 b0 b1 n r0 r1 s0 s1 x0 x1 y0 y1 j c d)) := by
  have hl : ∀ s ∈ ([⟨a0, a1⟩, ⟨b0, b1⟩] : List S23), s.f0.size ≤ 9223372036854775807 ∧ s.f1.size ≤ 9223372036854775807 := by
    intro s hs
    simp only [List.mem_cons, List.not_mem_nil, or_false] at hs
    rcases hs with rfl | rfl
    · exact ⟨la0, la1⟩
    · exact ⟨lb0, lb1⟩
  obtain ⟨K, hK⟩ := few_f [⟨a0, a1⟩, ⟨b0, b1⟩] hl (by simp)
  by_cases hg : Good ⟨a0, a1⟩ ∧ Good ⟨b0, b1⟩
  · obtain ⟨⟨a, ha, ea0, ea1⟩, ⟨b, hb, eb0, eb1⟩⟩ := hg
    simp only at ea0 ea1 eb0 eb1
    have hpa : strings_HasPrefix.f (nt a) ⟨#[45]⟩ = some (decide (a.1 < 0)) := by
      show strings_HasPrefix.f (B (numT a)) ⟨#[45]⟩ = _
      rw [rstrhasp]; congr 1
      rw [Bool.eq_iff_iff, decide_eq_true_eq, decide_eq_true_eq, rhead_neg]
    have hpb : strings_HasPrefix.f (nt b) ⟨#[45]⟩ = some (decide (b.1 < 0)) := by
      show strings_HasPrefix.f (B (numT b)) ⟨#[45]⟩ = _
      rw [rstrhasp]; congr 1
      rw [Bool.eq_iff_iff, decide_eq_true_eq, decide_eq_true_eq, rhead_neg]
    by_cases hs : 0 ≤ a.1 ∧ 0 ≤ b.1
    · obtain ⟨K2, h2⟩ := roots_ops a b ha hb hs.1 hs.2 n
      obtain ⟨fw, hf, _⟩ := hK (K + K2) (by omega)
      refine ⟨K + K2, fw, hf, fun _ => ?_⟩
      rw [ea0, ea1, eb0, eb1]
      exact ⟨_, _, hpa, hpb, fun _ _ => h2 (K + K2) (by omega)⟩
    · obtain ⟨fw, hf, _⟩ := hK K (Nat.le_refl _)
      refine ⟨K, fw, hf, fun _ => ?_⟩
      rw [ea0, ea1, eb0, eb1]
      refine ⟨_, _, hpa, hpb, fun h1 h2 => absurd ?_ hs⟩
      have g1 := of_decide_eq_false h1
      have g2 := of_decide_eq_false h2
      omega
  · obtain ⟨fw, hf, h3⟩ := hK K (Nat.le_refl _)
    refine ⟨K, fw, hf, fun hfw => absurd ?_ hg⟩
    exact ⟨h3 hfw 0 (by simp), h3 hfw 1 (by simp)⟩
end Go.Proofs.YtefhcgnamfnkbaaGreatDoor.Pure
