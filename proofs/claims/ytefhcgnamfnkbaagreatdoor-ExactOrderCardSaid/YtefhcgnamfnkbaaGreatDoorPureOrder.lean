/- ExactOrder in numbers. -/
import Derived.Test.YtefhcgnamfnkbaaGreatDoorPureField
import Derived.Test.YtefhcgnamfnkbaaGreatDoorPureCmp
import Derived.Test.YtefhcgnamfnkbaaGreatDoorOrderOps
namespace Go.Proofs.YtefhcgnamfnkbaaGreatDoor.Pure
open Go.RowKit Go.Proofs.YtefhcgnamfnkbaaGreatDoor.Pr Go.Proofs.YtefhcgnamfnkbaaGreatDoorW.PrintWords Go.Proofs.YtefhcgnamfnkbaaGreatDoorW.PrintLast

theorem qcmp_swap (x y : Q) : qcmp y x = -(qcmp x y) := by
  unfold qcmp
  by_cases h : x.1 * (y.2 : Int) = y.1 * (x.2 : Int)
  · rw [if_pos h, if_pos h.symm]; rfl
  · rw [if_neg h, if_neg (fun e => h e.symm)]
    by_cases h2 : x.1 * (y.2 : Int) < y.1 * (x.2 : Int)
    · rw [if_pos h2, if_neg (by omega)]; rfl
    · rw [if_neg h2, if_pos (by omega)]
theorem qcmp_vals (x y : Q) : qcmp x y = -1 ∨ qcmp x y = 0 ∨ qcmp x y = 1 := by
  unfold qcmp
  split
  · exact Or.inr (Or.inl rfl)
  · split
    · exact Or.inl rfl
    · exact Or.inr (Or.inr rfl)
theorem qcmp_zero {x y : Q} (hx : qLow x) (hy : qLow y) : qcmp x y = 0 ↔ x = y := by
  unfold qcmp
  constructor
  · intro h
    by_cases e : x.1 * (y.2 : Int) = y.1 * (x.2 : Int)
    · exact low_eq hx hy e
    · rw [if_neg e] at h
      split at h <;> cases h
  · rintro rfl
    rw [if_pos rfl]
theorem qcmp_neg (x y : Q) : qcmp x y < 0 ↔ x.1 * (y.2 : Int) < y.1 * (x.2 : Int) := by
  unfold qcmp
  by_cases e : x.1 * (y.2 : Int) = y.1 * (x.2 : Int)
  · rw [if_pos e]; omega
  · rw [if_neg e]
    split <;> omega
/-- The sign of a fraction in lowest terms is the sign of what it was made from. -/
theorem can_sign_iff (z : Int) (d : Nat) (h : 0 < d) : (can (z, d)).1 < 0 ↔ z < 0 := by
  constructor
  · intro h1
    by_cases hz : z < 0
    · exact hz
    · have := can_nonneg z d h (by omega)
      omega
  · exact can_sign z d h
theorem can_zero_iff (z : Int) (d : Nat) (h : 0 < d) : (can (z, d)).1 = 0 ↔ z = 0 := by
  constructor
  · intro h1
    have h2 := (can_back z d).1
    have h3 : canN z d = 0 := h1
    rw [h3, Int.zero_mul] at h2
    exact h2.symm
  · rintro rfl
    rw [can_zero d h]
theorem sub_neg {x y : Q} (hx : qLow x) (hy : qLow y) : (qSub x y).1 < 0 ↔ qcmp x y < 0 := by
  rw [qcmp_neg]
  have h : 0 < x.2 * y.2 := Nat.mul_pos hx.1 hy.1
  rw [show (qSub x y).1 < 0 ↔ x.1 * (y.2 : Int) - y.1 * (x.2 : Int) < 0 from can_sign_iff _ _ h]
  omega
theorem sub_zero' {x y : Q} (hx : qLow x) (hy : qLow y) : (qSub x y).1 = 0 ↔ qcmp x y = 0 := by
  have h : 0 < x.2 * y.2 := Nat.mul_pos hx.1 hy.1
  rw [show (qSub x y).1 = 0 ↔ x.1 * (y.2 : Int) - y.1 * (x.2 : Int) = 0 from can_zero_iff _ _ h]
  unfold qcmp
  constructor
  · intro e
    rw [if_pos (by omega)]
  · intro e
    by_cases h2 : x.1 * (y.2 : Int) = y.1 * (x.2 : Int)
    · omega
    · rw [if_neg h2] at e
      split at e <;> cases e
theorem head_neg (x : Q) : (numT x).head? = some 45 ↔ x.1 < 0 := by
  unfold numT sgL
  by_cases h : x.1 < 0
  · rw [if_pos h]; simp [h]
  · rw [if_neg h, List.nil_append]
    exact ⟨fun e => absurd e (dec_no45 _), fun e => absurd e h⟩
theorem strhasp (l : List UInt8) : strings_HasPrefix.f (B l) ⟨#[45]⟩ = some (decide (l.head? = some 45)) := by
  unfold strings_HasPrefix.f
  rw [hasp45]; rfl
theorem den1 (z : Int) : dt (z, 1) = ⟨#[49]⟩ := by
  show B (Lib.decDigits 1) = B [49]
  rw [dec_small 1 (by omega)]; rfl
theorem num1 : nt (1, 1) = ⟨#[49]⟩ := by
  show B (numT (1, 1)) = B [49]
  unfold numT sgL
  rw [if_neg (by decide)]
  show B ([] ++ Lib.decDigits 1) = _
  rw [dec_small 1 (by omega)]; rfl
theorem one_sz : Sz 1 (1, 1) := ⟨low_one 1, Nat.le_refl _, Nat.le_refl _⟩
theorem of_one : exact_Of.f 1 = some (⟨#[49]⟩, ⟨#[49]⟩) := by
  have h : Lib.itoa 1 = [49] := by
    show (if (1 : Int) < 0 then _ else _) = _
    rw [if_neg (by decide)]
    exact dec_small 1 (by omega)
  unfold exact_Of.f strconv_Itoa.f
  rw [if_pos (by decide), if_pos (by decide), h]
  rfl
theorem qAdd_one (z : Int) : qAdd (z, 1) (1, 1) = (z + 1, 1) := by
  show can (z * ((1 : Nat) : Int) + 1 * ((1 : Nat) : Int), 1 * 1) = _
  rw [show z * ((1 : Nat) : Int) + 1 * ((1 : Nat) : Int) = z + 1 by omega]
  exact can_low_self (low_one _)
theorem order_ops (a b : Q) (ha : Sz S1 a) (hb : Sz S1 b) : ∃ K, ∀ k, K ≤ k → ∃ d0 d1 f0 up0 up1 n c hp, OrderOps k (nt a) (dt a) (nt b) (dt b) d0 d1 f0 up0 up1 n c hp := by
  have fa := fit_of ha (by decide +kernel)
  have fb := fit_of hb (by decide +kernel)
  have sd := sub_sz ha hb
  have fd := fit_of sd (by decide +kernel)
  have sf := floor_sz ha
  have ff := fit_of sf (by decide +kernel)
  have su := add_sz sf one_sz
  have fu := fit_of su (by decide +kernel)
  have f1 := fit_of one_sz (by decide +kernel)
  obtain ⟨K5, h5⟩ := compare_num a b ha.1 hb.1 fa fb
  obtain ⟨K6, h6⟩ := compare_num b a hb.1 ha.1 fb fa
  obtain ⟨K7, h7⟩ := sub_num a b ha.1 hb.1 fa fb fd
  obtain ⟨K8, h8⟩ := floor_num a ha.1 fa ff
  obtain ⟨K9, h9⟩ := compare_num (qFloor a) a sf.1 ha.1 ff fa
  obtain ⟨K10, h10⟩ := add_num (qFloor a) (1, 1) sf.1 one_sz.1 ff f1 fu
  obtain ⟨K11, h11⟩ := compare_num (qAdd (qFloor a) (1, 1)) a su.1 ha.1 fu fa
  rw [qcmp_swap] at h6
  have ed : dt (qFloor a) = ⟨#[49]⟩ := den1 _
  rw [ed] at h8 h9 h10
  rw [num1, den1] at h10
  have hd := ha.1.1
  have up : qcmp (qAdd (qFloor a) (1, 1)) a = 1 := by
    have e : qAdd (qFloor a) (1, 1) = (a.1 / (a.2 : Int) + 1, 1) := qAdd_one _
    rw [e]
    have hlt : a.1 < (a.1 / (a.2 : Int) + 1) * (a.2 : Int) := Int.lt_ediv_add_one_mul_self a.1 (by omega)
    unfold qcmp
    show (if (a.1 / (a.2 : Int) + 1) * (a.2 : Int) = a.1 * ((1 : Nat) : Int) then (0 : Int) else if (a.1 / (a.2 : Int) + 1) * (a.2 : Int) < a.1 * ((1 : Nat) : Int) then -1 else 1) = 1
    rw [if_neg (by omega), if_neg (by omega)]
  have low : qcmp (qFloor a) a ≤ 0 := by
    have hle : a.1 / (a.2 : Int) * (a.2 : Int) ≤ a.1 := Int.ediv_mul_le a.1 (by omega)
    unfold qcmp
    show (if a.1 / (a.2 : Int) * (a.2 : Int) = a.1 * ((1 : Nat) : Int) then (0 : Int) else if a.1 / (a.2 : Int) * (a.2 : Int) < a.1 * ((1 : Nat) : Int) then -1 else 1) ≤ 0
    split
    · exact Int.le_refl _
    · split
      · decide
      · omega
  rw [up] at h11
  refine ⟨K5 + K6 + K7 + K8 + K9 + K10 + K11, fun k hk => ⟨nt (qSub a b), dt (qSub a b), nt (qFloor a), nt (qAdd (qFloor a) (1, 1)), dt (qAdd (qFloor a) (1, 1)), qcmp a b, qcmp (qFloor a) a, decide (qcmp a b < 0), ?_⟩⟩
  refine ⟨h5 k (by omega), h6 k (by omega), h7 k (by omega), h8 k (by omega), h9 k (by omega), low, of_one, h10 k (by omega), h11 k (by omega), qcmp_vals a b, ?_, rfl, ?_, ?_⟩
  · show strings_HasPrefix.f (B (numT (qSub a b))) ⟨#[45]⟩ = _
    rw [strhasp]
    congr 1
    rw [Bool.eq_iff_iff, decide_eq_true_eq, decide_eq_true_eq, head_neg, sub_neg ha.1 hb.1]
  · rw [numT_zero, sub_zero' ha.1 hb.1]
  · rw [qcmp_zero ha.1 hb.1]
    constructor
    · rintro ⟨e1, e2⟩
      unfold nt at e1
      unfold dt at e2
      rw [B_list, B_list] at e1 e2
      exact Prod.ext (numT_inj e1) (denT_inj e2)
    · rintro rfl
      exact ⟨rfl, rfl⟩
theorem order_pure (a0 a1 b0 b1 : ByteArray) (la0 : a0.size ≤ 9223372036854775807) (la1 : a1.size ≤ 9223372036854775807) (lb0 : b0.size ≤ 9223372036854775807) (lb1 : b1.size ≤ 9223372036854775807) :
    ∃ k fw, chancerykeep2_few.f k [⟨a0, a1⟩, ⟨b0, b1⟩] = some fw ∧ (fw = true → ∃ d0 d1 f0 up0 up1 n c hp, OrderOps k a0 a1 b0 b1 d0 d1 f0 up0 up1 n c hp) := by
  have hl : ∀ s ∈ ([⟨a0, a1⟩, ⟨b0, b1⟩] : List S23), s.f0.size ≤ 9223372036854775807 ∧ s.f1.size ≤ 9223372036854775807 := by
    intro s hs
    simp only [List.mem_cons, List.not_mem_nil, or_false] at hs
    rcases hs with rfl | rfl
    · exact ⟨la0, la1⟩
    · exact ⟨lb0, lb1⟩
  obtain ⟨K, hK⟩ := few_f [⟨a0, a1⟩, ⟨b0, b1⟩] hl (by simp)
  by_cases hg : Good ⟨a0, a1⟩ ∧ Good ⟨b0, b1⟩
  · obtain ⟨⟨a, ha, ea0, ea1⟩, ⟨b, hb, eb0, eb1⟩⟩ := hg
    simp only at ea0 ea1 eb0 eb1
    obtain ⟨K2, h2⟩ := order_ops a b ha hb
    obtain ⟨fw, hf, _⟩ := hK (K + K2) (by omega)
    refine ⟨K + K2, fw, hf, fun _ => ?_⟩
    rw [ea0, ea1, eb0, eb1]
    exact h2 (K + K2) (by omega)
  · obtain ⟨fw, hf, h3⟩ := hK K (Nat.le_refl _)
    refine ⟨K, fw, hf, fun hfw => absurd ?_ hg⟩
    exact ⟨h3 hfw 0 (by simp), h3 hfw 1 (by simp)⟩
end Go.Proofs.YtefhcgnamfnkbaaGreatDoor.Pure
