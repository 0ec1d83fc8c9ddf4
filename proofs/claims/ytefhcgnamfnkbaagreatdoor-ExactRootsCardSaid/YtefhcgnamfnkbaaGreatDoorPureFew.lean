/- What chancerykeep2.few tells: fractions in lowest terms with at most 40 digits. -/
import Derived.Test.YtefhcgnamfnkbaaGreatDoorZf
import Derived.Test.YtefhcgnamfnkbaaGreatDoorPrx10
namespace Go.Proofs.YtefhcgnamfnkbaaGreatDoor.Pure
open Go.RowKit Go.Proofs.YtefhcgnamfnkbaaGreatDoor.Pr Go.Proofs.YtefhcgnamfnkbaaGreatDoorW.PrintWords Go.Proofs.YtefhcgnamfnkbaaGreatDoorW.PrintLast

def Good (s : S23) : Prop := ∃ x : Q, Sz (10 ^ 40) x ∧ s.f0 = nt x ∧ s.f1 = dt x
theorem forty (u : Nat) (h : (Lib.decDigits u).length ≤ 40) : u ≤ 10 ^ 40 :=
  Nat.le_of_lt (Nat.lt_of_lt_of_le (dec_lt u) (Nat.pow_le_pow_right (by omega) h))
theorem check_num (s : S23) (h0 : s.f0.size ≤ 9223372036854775807) (h1 : s.f1.size ≤ 9223372036854775807) : ∃ K, ∀ k, K ≤ k → ∃ e, exact_Check.f k s.f0 s.f1 = some e ∧ (e = 0 → s.f0.size ≤ 40 → s.f1.size ≤ 40 → Good s) := by
  obtain ⟨K, hK⟩ := read_all s.f0.data.toList s.f1.data.toList h0 h1
  refine ⟨K, fun k hk => ?_⟩
  obtain ⟨m, N, D, e, h, h2, _⟩ := hK k hk
  rw [B_self, B_self] at h
  refine ⟨e, by unfold exact_Check.f; rw [h]; rfl, fun he l0 l1 => ?_⟩
  obtain ⟨x, x1, x2, x3, _⟩ := h2 he
  have e0 : s.f0.data.toList.length = s.f0.size := rfl
  have e1 : s.f1.data.toList.length = s.f1.size := rfl
  rw [x2] at e0
  rw [x3] at e1
  unfold numT at e0
  rw [List.length_append] at e0
  exact ⟨x, ⟨x1, forty _ (by omega), forty _ (by unfold denT at e1; omega)⟩, B_of x2, B_of x3⟩
theorem wr_next (i : Nat) (h : i ≤ 4000000) : wrap64 ((i : Int) + 1) = ((i + 1 : Nat) : Int) := by unfold wrap64; omega
theorem few_l0 (l : List S23) (hl : ∀ s ∈ l, s.f0.size ≤ 9223372036854775807 ∧ s.f1.size ≤ 9223372036854775807) (hlen : l.length ≤ 1000) : ∀ (d i : Nat), i + d = l.length → ∃ K, ∀ k, K ≤ k → ∃ fw, chancerykeep2_few.l0 k l (l.length : Int) (i : Int) = some fw ∧ (fw = true → ∀ j (h : j < l.length), i ≤ j → Good l[j])
  | 0, i, hi => ⟨1, fun k hk => by
      obtain ⟨k, rfl⟩ : ∃ z, k = z + 1 := ⟨k - 1, by omega⟩
      refine ⟨true, ?_, fun _ j h hij => absurd h (by omega)⟩
      simp only [chancerykeep2_few.l0]
      rw [if_neg (by omega)]⟩
  | d + 1, i, hi => by
      have hil : i < l.length := by omega
      obtain ⟨K1, h1⟩ := check_num l[i] (hl _ (List.getElem_mem _)).1 (hl _ (List.getElem_mem _)).2
      obtain ⟨K2, h2⟩ := few_l0 l hl hlen d (i + 1) (by omega)
      refine ⟨K1 + K2 + 1, fun k hk => ?_⟩
      obtain ⟨k, rfl⟩ : ∃ z, k = z + 1 := ⟨k - 1, by omega⟩
      obtain ⟨e, he, hg⟩ := h1 k (by omega)
      obtain ⟨fw, hf, hg2⟩ := h2 k (by omega)
      have hrd : rd_T23 l (i : Int) = l[i] := by
        unfold rd_T23
        simp [List.getD, hil]
      simp only [chancerykeep2_few.l0]
      rw [if_pos (by omega), if_pos (by omega), if_pos (by omega), hrd, he, Option.bind_some]
      by_cases e0 : e = 0
      · rw [if_pos e0]
        by_cases s0 : l[i].f0.size ≤ 40
        · rw [if_neg (by omega)]
          by_cases s1 : l[i].f1.size ≤ 40
          · rw [if_neg (by omega), wr_next i (by omega), hf]
            refine ⟨fw, rfl, fun hfw j hj hij => ?_⟩
            by_cases hji : j = i
            · subst hji; exact hg e0 s0 s1
            · exact hg2 hfw j hj (by omega)
          · rw [if_pos (by omega)]
            exact ⟨false, rfl, fun h => by cases h⟩
        · rw [if_pos (by omega)]
          exact ⟨false, rfl, fun h => by cases h⟩
      · rw [if_neg e0]
        exact ⟨false, rfl, fun h => by cases h⟩
theorem few_f (l : List S23) (hl : ∀ s ∈ l, s.f0.size ≤ 9223372036854775807 ∧ s.f1.size ≤ 9223372036854775807) (hlen : l.length ≤ 1000) : ∃ K, ∀ k, K ≤ k → ∃ fw, chancerykeep2_few.f k l = some fw ∧ (fw = true → ∀ j (h : j < l.length), Good l[j]) := by
  obtain ⟨K, hK⟩ := few_l0 l hl hlen l.length 0 (by omega)
  refine ⟨K, fun k hk => ?_⟩
  obtain ⟨fw, hf, hg⟩ := hK k hk
  exact ⟨fw, hf, fun h j hj => hg h j hj (by omega)⟩
end Go.Proofs.YtefhcgnamfnkbaaGreatDoor.Pure
