/- ExactTexts in numbers. -/
import Derived.Test.YtefhcgnamfnkbaaGreatDoorPn
import Derived.Test.YtefhcgnamfnkbaaGreatDoorPureFew
import Derived.Test.YtefhcgnamfnkbaaGreatDoorTextsOps
import Derived.Lib.IndexBytes
import Derived.Lib.IndexMore
namespace Go.Proofs.YtefhcgnamfnkbaaGreatDoor.Pure
open Go.RowKit Go.Proofs.YtefhcgnamfnkbaaGreatDoor.Pr Go.Proofs.YtefhcgnamfnkbaaGreatDoorW.PrintWords Go.Proofs.YtefhcgnamfnkbaaGreatDoorW.PrintLast

theorem index1 (c : UInt8) (B : List UInt8) : ∀ A : List UInt8, c ∉ A → Lib.index (A ++ c :: B) [c] = (A.length : Int)
  | [], _ => by simp [Lib.index, List.isPrefixOf]
  | a :: A, h => by
    have h1 : c ≠ a := fun e => h (by rw [e]; exact List.mem_cons_self)
    have h2 := index1 c B A (fun e => h (List.mem_cons_of_mem _ e))
    simp only [List.cons_append, Lib.index, List.isPrefixOf]
    rw [h2]
    have e1 : (c == a) = false := beq_eq_false_iff_ne.mpr h1
    simp only [e1, Bool.false_and, Bool.false_eq_true, if_false, List.length_cons]
    have e2 : ((A.length : Int) == -1) = false := beq_eq_false_iff_ne.mpr (by omega)
    simp only [e2, Bool.false_eq_true, if_false]
    omega
theorem index0 (c : UInt8) : ∀ A : List UInt8, c ∉ A → Lib.index A [c] = -1
  | [], _ => by simp [Lib.index]
  | a :: A, h => by
    have h1 : c ≠ a := fun e => h (by rw [e]; exact List.mem_cons_self)
    have h2 := index0 c A (fun e => h (List.mem_cons_of_mem _ e))
    simp only [Lib.index, List.isPrefixOf]
    rw [h2]
    have e1 : (c == a) = false := beq_eq_false_iff_ne.mpr h1
    simp [e1]
theorem no46 {l : List UInt8} (h : Dec l) : (46 : UInt8) ∉ l := fun e => by
  have := h 46 e
  revert this; decide
/-- The digits behind the point. -/
theorem cut_dec (m : Bool) (z p : Nat) (hz : (Lib.decDigits z).length ≤ 400) (hp : p ≤ 200) : ∃ u fd, strings_Cut.f (B (decT m z p)) ⟨#[46]⟩ = some (u, B (fP z p), fd) := by
  have h1 := fP_len z p
  have h2 := fW_len z p
  have h3 := full_len z p
  have l1 := sg_len (m && decide (z ≠ 0))
  have l2 := pt_len (fP z p)
  have hA : (46 : UInt8) ∉ sg (m && decide (z ≠ 0)) ++ fW z p := by
    intro e
    rcases List.mem_append.1 e with e | e
    · unfold sg at e
      split at e
      · revert e; decide
      · cases e
    · exact no46 (fW_Dec z p) e
  have hb : (⟨#[46]⟩ : ByteArray).data.toList = [46] := rfl
  have hlen : (B (decT m z p)).size < 4294967281 := by
    rw [B_size]
    unfold decT
    rw [List.length_append, List.length_append]
    omega
  unfold strings_Cut.f
  rw [if_pos hlen, hb, B_data]
  by_cases hP : fP z p = []
  · have e : decT m z p = sg (m && decide (z ≠ 0)) ++ fW z p := by
      unfold decT pt
      rw [if_pos hP, List.append_nil]
    have hc : Lib.cut (decT m z p) [46] = (decT m z p, [], false) := by
      unfold Lib.cut
      rw [e, index0 46 _ hA, if_neg (by omega)]
    rw [hc, hP]
    exact ⟨_, _, rfl⟩
  · have e : decT m z p = (sg (m && decide (z ≠ 0)) ++ fW z p) ++ 46 :: fP z p := by
      unfold decT pt
      rw [if_neg hP, List.append_assoc]
    have hc : Lib.cut (decT m z p) [46] = (sg (m && decide (z ≠ 0)) ++ fW z p, fP z p, true) := by
      unfold Lib.cut
      rw [e, index1 46 _ _ hA, if_pos (by omega)]
      simp only [Int.toNat_natCast, List.take_left', List.length_singleton]
      rw [show (sg (m && decide (z ≠ 0)) ++ fW z p ++ 46 :: fP z p).drop ((sg (m && decide (z ≠ 0)) ++ fW z p).length + 1) = fP z p from by
        rw [← List.drop_drop, List.drop_left' rfl]; rfl]
    rw [hc]
    exact ⟨_, _, rfl⟩
theorem mod_num (n : Int) (m : Nat) (hm : 1 ≤ m) (hm2 : m ≤ 1000) : ∃ j : Nat, chancerykeep2_mod.f n (m : Int) = some (j : Int) ∧ j < m := by
  have a1 : Int.tmod n (m : Int) < (m : Int) := Int.tmod_lt_of_pos n (by omega)
  have a2 : -(m : Int) < Int.tmod n (m : Int) := by
    have := Int.tmod_lt_of_pos (-n) (show (0 : Int) < (m : Int) by omega)
    rw [Int.neg_tmod] at this
    omega
  have hw : wrap64 (Int.tmod n (m : Int) + (m : Int)) = Int.tmod n (m : Int) + (m : Int) := by unfold wrap64; omega
  obtain ⟨y, hy⟩ : ∃ y : Nat, Int.tmod n (m : Int) + (m : Int) = (y : Int) := ⟨(Int.tmod n (m : Int) + (m : Int)).toNat, by omega⟩
  refine ⟨y % m, ?_, Nat.mod_lt _ hm⟩
  unfold chancerykeep2_mod.f
  rw [if_neg (by omega), hw, hy]
  rfl
theorem near_units {x : Q} {p : Nat} (hx : qLow x) (h : x.2 ∣ 10 ^ p) : near x p = units x p := round_whole hx h
theorem texts_ops (a : Q) (ha : Sz (10 ^ 40) a) (n : Int) : ∃ K, ∀ k, K ≤ k → (∃ s, exact_Shortest.f k (nt a) (dt a) = some (s, false, 0) ∧ s = ⟨#[]⟩) ∨ ∃ s u v t fd j, TextsOps k (nt a) (dt a) n s u v t fd j := by
  obtain ⟨K1, h1⟩ := shortest_num a ha
  obtain ⟨j, hm, hj⟩ := mod_num n 5 (by decide) (by decide)
  have hall : ∃ K, ∀ q, q ≤ 100 → ∀ k, K ≤ k → exact_Fixed.f k (nt a) (dt a) q = some (B (decT (neg a) (near a q) q), 0) := by
    have hN : ∀ N, ∃ K, ∀ q, q < N → q ≤ 100 → ∀ k, K ≤ k → exact_Fixed.f k (nt a) (dt a) q = some (B (decT (neg a) (near a q) q), 0) := by
      intro N
      induction N with
      | zero => exact ⟨0, fun q h => absurd h (by omega)⟩
      | succ N ih =>
        obtain ⟨K, hK⟩ := ih
        by_cases hN : N ≤ 100
        · obtain ⟨K2, hK2⟩ := fixed_num a ha N hN
          refine ⟨K + K2, fun q hq hq2 k hk => ?_⟩
          by_cases e : q = N
          · subst e; exact hK2 k (by omega)
          · exact hK q (by omega) hq2 k (by omega)
        · exact ⟨K, fun q hq hq2 k hk => hK q (by omega) hq2 k hk⟩
    obtain ⟨K, hK⟩ := hN 101
    exact ⟨K, fun q hq => hK q (by omega) hq⟩
  obtain ⟨K2, h2⟩ := hall
  have hp200 : ∀ q, q ≤ 200 → 10 ^ q + 3000000000 ≤ 10 ^ 200 + 3000000000 := fun q hq => Nat.add_le_add_right (Nat.pow_le_pow_right (by decide) hq) _
  refine ⟨K1 + K2 + (10 ^ 200 + 3000000000), fun k hk => ?_⟩
  have k1 : K1 ≤ k := Nat.le_trans (by rw [Nat.add_assoc]; exact Nat.le_add_right _ _) hk
  have k2 : K2 ≤ k := Nat.le_trans (by rw [Nat.add_comm K1, Nat.add_assoc]; exact Nat.le_add_right _ _) hk
  have k3 : 10 ^ 200 + 3000000000 ≤ k := Nat.le_trans (Nat.le_add_left _ _) hk
  clear hk
  obtain ⟨s, ok, e1, no, yes⟩ := h1 k k1
  cases ok with
  | false => exact Or.inl ⟨s, e1, no rfl⟩
  | true =>
    right
    obtain ⟨p, p1, p2, rfl⟩ := yes rfl
    have hz := units_text ha (p := p) (by omega)
    obtain ⟨u, fd, hc⟩ := cut_dec (neg a) (units a p) p hz (by omega)
    have hlv : (B (fP (units a p) p)).size = p := by rw [B_size, fP_len]
    refine ⟨B (decT (neg a) (units a p) p), u, B (fP (units a p) p), B (decT (neg a) (near a (min 100 (p + j))) (min 100 (p + j))), fd, j, ?_⟩
    refine ⟨e1, parse_units a ha p k (by omega) p2 (Nat.le_trans (hp200 p (by omega)) k3), hc, hm, by omega, by rw [hlv]; exact p1, ?_, ?_⟩
    · rw [hlv]
      exact h2 _ (Nat.min_le_left _ _) k k2
    · rw [hlv]
      intro hle
      have hq : p ≤ min 100 (p + j) := by omega
      have hd : a.2 ∣ 10 ^ min 100 (p + j) := Nat.dvd_trans p2 (Nat.pow_dvd_pow 10 hq)
      rw [near_units ha.1 hd]
      exact parse_units a ha _ k (by omega) hd (Nat.le_trans (hp200 _ (by omega)) k3)
theorem texts_pure (a0 a1 : ByteArray) (n : Int) (la0 : a0.size ≤ 9223372036854775807) (la1 : a1.size ≤ 9223372036854775807) :
    ∃ k fw, chancerykeep2_few.f k [⟨a0, a1⟩] = some fw ∧ (fw = true → (∃ s, exact_Shortest.f k a0 a1 = some (s, false, 0) ∧ s = ⟨#[]⟩) ∨ ∃ s u v t fd j, TextsOps k a0 a1 n s u v t fd j) := by
  have hl : ∀ s ∈ ([⟨a0, a1⟩] : List S23), s.f0.size ≤ 9223372036854775807 ∧ s.f1.size ≤ 9223372036854775807 := by
    intro s hs
    simp only [List.mem_cons, List.not_mem_nil, or_false] at hs
    rcases hs with rfl
    exact ⟨la0, la1⟩
  obtain ⟨K, hK⟩ := few_f [⟨a0, a1⟩] hl (by simp)
  by_cases hg : Good ⟨a0, a1⟩
  · obtain ⟨a, ha, ea0, ea1⟩ := hg
    simp only at ea0 ea1
    obtain ⟨K2, h2⟩ := texts_ops a ha n
    obtain ⟨fw, hf, _⟩ := hK (K + K2) (by omega)
    refine ⟨K + K2, fw, hf, fun _ => ?_⟩
    rw [ea0, ea1]
    exact h2 (K + K2) (by omega)
  · obtain ⟨fw, hf, h3⟩ := hK K (Nat.le_refl _)
    exact ⟨K, fw, hf, fun hfw => absurd (h3 hfw 0 (by simp)) hg⟩
end Go.Proofs.YtefhcgnamfnkbaaGreatDoor.Pure
