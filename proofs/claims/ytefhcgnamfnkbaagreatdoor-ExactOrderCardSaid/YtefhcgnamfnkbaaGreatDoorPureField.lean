/- ExactField in numbers: fractions of few digits obey the laws of a field, as the program has them. -/
import Derived.Test.YtefhcgnamfnkbaaGreatDoorPureFew
import Derived.Test.YtefhcgnamfnkbaaGreatDoorFieldOps
namespace Go.Proofs.YtefhcgnamfnkbaaGreatDoor.Pure
open Go.RowKit Go.Proofs.YtefhcgnamfnkbaaGreatDoor.Pr Go.Proofs.YtefhcgnamfnkbaaGreatDoorW.PrintWords Go.Proofs.YtefhcgnamfnkbaaGreatDoorW.PrintLast

theorem numT_zero (x : Q) : (nt x).toList = [48] ↔ x.1 = 0 := by
  unfold nt
  rw [B_list]
  unfold numT sgL
  constructor
  · intro h
    by_cases hz : x.1 < 0
    · rw [if_pos hz] at h
      simp only [List.cons_append, List.nil_append, List.cons.injEq] at h
      exact absurd h.1 (by decide)
    · rw [if_neg hz, List.nil_append] at h
      have : dv (Lib.decDigits x.1.natAbs) = dv [48] := by rw [h]
      rw [dv_dec] at this
      have h0 : dv [48] = 0 := rfl
      omega
  · intro h
    rw [h, if_neg (by omega), List.nil_append]
    show Lib.decDigits 0 = [48]
    rw [dec_small 0 (by omega)]; rfl
/-- The sizes that occur. -/
abbrev S1 : Nat := 10 ^ 40
theorem field_ops (a b c : Q) (ha : Sz S1 a) (hb : Sz S1 b) (hc : Sz S1 c) : ∃ K, ∀ k, K ≤ k → ∃ ab0 ab1 bc0 bc1 x0 x1 p0 p1 q0 q1 r0 r1 u0 u1, FieldOps k (nt a) (dt a) (nt b) (dt b) (nt c) (dt c) ab0 ab1 bc0 bc1 x0 x1 p0 p1 q0 q1 r0 r1 u0 u1 := by
  have fa := fit_of ha (by decide +kernel)
  have fb := fit_of hb (by decide +kernel)
  have fc := fit_of hc (by decide +kernel)
  have sab := add_sz ha hb
  have sba := add_sz hb ha
  have sbc := add_sz hb hc
  have sx := add_sz sab hc
  have sy := add_sz ha sbc
  have sp := mul_sz ha sbc
  have sq := mul_sz ha hb
  have sr := mul_sz ha hc
  have ss := add_sz sq sr
  have sd := sub_sz sab hb
  have fab := fit_of sab (by decide +kernel)
  have fba := fit_of sba (by decide +kernel)
  have fbc := fit_of sbc (by decide +kernel)
  have fx := fit_of sx (by decide +kernel)
  have fy := fit_of sy (by decide +kernel)
  have fp := fit_of sp (by decide +kernel)
  have fq := fit_of sq (by decide +kernel)
  have fr := fit_of sr (by decide +kernel)
  have fs := fit_of ss (by decide +kernel)
  have fd := fit_of sd (by decide +kernel)
  obtain ⟨K5, h5⟩ := add_num a b ha.1 hb.1 fa fb fab
  obtain ⟨K6, h6⟩ := add_num b c hb.1 hc.1 fb fc fbc
  obtain ⟨K7, h7⟩ := add_num (qAdd a b) c sab.1 hc.1 fab fc fx
  obtain ⟨K8, h8⟩ := add_num a (qAdd b c) ha.1 sbc.1 fa fbc fy
  obtain ⟨K9, h9⟩ := mul_num a (qAdd b c) ha.1 sbc.1 fa fbc fp
  obtain ⟨K10, h10⟩ := mul_num a b ha.1 hb.1 fa fb fq
  obtain ⟨K11, h11⟩ := mul_num a c ha.1 hc.1 fa fc fr
  obtain ⟨K12, h12⟩ := add_num (qMul a b) (qMul a c) sq.1 sr.1 fq fr fs
  obtain ⟨K13, h13⟩ := add_num b a hb.1 ha.1 fb fa fba
  obtain ⟨K14, h14⟩ := sub_num (qAdd a b) b sab.1 hb.1 fab fb fd
  rw [← qAdd_assoc a b c ha.1 hb.1 hc.1] at h8
  rw [← q_distrib a b c ha.1 hb.1 hc.1] at h12
  rw [qAdd_comm b a] at h13
  rw [q_add_sub a b ha.1 hb.1] at h14
  obtain ⟨K15, h15⟩ : ∃ K, ∀ k, K ≤ k → (nt b).toList ≠ [48] → exact_two.f exact_Div_1.f k (nt a) (dt a) (nt b) (dt b) = some (nt (qDiv a b), dt (qDiv a b), 0) ∧ exact_two.f exact_Mul_1.f k (nt (qDiv a b)) (dt (qDiv a b)) (nt b) (dt b) = some (nt a, dt a, 0) := by
    by_cases h0 : b.1 = 0
    · exact ⟨0, fun k _ h => absurd ((numT_zero b).2 h0) h⟩
    · have su := div_sz ha hb h0
      have sv' := mul_sz su hb
      have fu := fit_of su (by decide +kernel)
      have fv := fit_of sv' (by decide +kernel)
      obtain ⟨L1, g1⟩ := div_num a b ha.1 hb.1 fa fb h0 fu
      obtain ⟨L2, g2⟩ := mul_num (qDiv a b) b su.1 hb.1 fu fb fv
      rw [q_div_mul a b ha.1 hb.1 h0] at g2
      exact ⟨L1 + L2, fun k hk _ => ⟨g1 k (by omega), g2 k (by omega)⟩⟩
  refine ⟨K5 + K6 + K7 + K8 + K9 + K10 + K11 + K12 + K13 + K14 + K15, fun k hk => ⟨nt (qAdd a b), dt (qAdd a b), nt (qAdd b c), dt (qAdd b c), nt (qAdd (qAdd a b) c), dt (qAdd (qAdd a b) c), nt (qMul a (qAdd b c)), dt (qMul a (qAdd b c)), nt (qMul a b), dt (qMul a b), nt (qMul a c), dt (qMul a c), nt (qDiv a b), dt (qDiv a b), ?_⟩⟩
  exact ⟨h5 k (by omega), h6 k (by omega), h7 k (by omega), h8 k (by omega), h9 k (by omega), h10 k (by omega), h11 k (by omega), h12 k (by omega), h13 k (by omega), h14 k (by omega), fun hne => (h15 k (by omega) hne).1, fun hne => (h15 k (by omega) hne).2⟩
/-- What the walk needs of three fractions. -/
theorem field_pure (a0 a1 b0 b1 c0 c1 : ByteArray) (la0 : a0.size ≤ 9223372036854775807) (la1 : a1.size ≤ 9223372036854775807) (lb0 : b0.size ≤ 9223372036854775807) (lb1 : b1.size ≤ 9223372036854775807) (lc0 : c0.size ≤ 9223372036854775807) (lc1 : c1.size ≤ 9223372036854775807) :
    ∃ k fw, chancerykeep2_few.f k [⟨a0, a1⟩, ⟨b0, b1⟩, ⟨c0, c1⟩] = some fw ∧ (fw = true → ∃ ab0 ab1 bc0 bc1 x0 x1 p0 p1 q0 q1 r0 r1 u0 u1, FieldOps k a0 a1 b0 b1 c0 c1 ab0 ab1 bc0 bc1 x0 x1 p0 p1 q0 q1 r0 r1 u0 u1) := by
  have hl : ∀ s ∈ ([⟨a0, a1⟩, ⟨b0, b1⟩, ⟨c0, c1⟩] : List S23), s.f0.size ≤ 9223372036854775807 ∧ s.f1.size ≤ 9223372036854775807 := by
    intro s hs
    simp only [List.mem_cons, List.not_mem_nil, or_false] at hs
    rcases hs with rfl | rfl | rfl
    · exact ⟨la0, la1⟩
    · exact ⟨lb0, lb1⟩
    · exact ⟨lc0, lc1⟩
  obtain ⟨K, hK⟩ := few_f [⟨a0, a1⟩, ⟨b0, b1⟩, ⟨c0, c1⟩] hl (by simp)
  by_cases hg : Good ⟨a0, a1⟩ ∧ Good ⟨b0, b1⟩ ∧ Good ⟨c0, c1⟩
  · obtain ⟨⟨a, ha, ea0, ea1⟩, ⟨b, hb, eb0, eb1⟩, ⟨c, hc, ec0, ec1⟩⟩ := hg
    simp only at ea0 ea1 eb0 eb1 ec0 ec1
    obtain ⟨K2, h2⟩ := field_ops a b c ha hb hc
    obtain ⟨fw, hf, _⟩ := hK (K + K2) (by omega)
    refine ⟨K + K2, fw, hf, fun _ => ?_⟩
    rw [ea0, ea1, eb0, eb1, ec0, ec1]
    exact h2 (K + K2) (by omega)
  · obtain ⟨fw, hf, h3⟩ := hK K (Nat.le_refl _)
    refine ⟨K, fw, hf, fun hfw => absurd ?_ hg⟩
    exact ⟨h3 hfw 0 (by simp), h3 hfw 1 (by simp), h3 hfw 2 (by simp)⟩
end Go.Proofs.YtefhcgnamfnkbaaGreatDoor.Pure
