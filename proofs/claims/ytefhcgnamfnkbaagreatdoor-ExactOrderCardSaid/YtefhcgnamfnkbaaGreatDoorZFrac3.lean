/- Fractions as the program has them: what Add, Sub, Mul, Div answer. -/
import Derived.Test.YtefhcgnamfnkbaaGreatDoorZFrac2
import Derived.Test.YtefhcgnamfnkbaaGreatDoorPrx12
import Derived.Test.YtefhcgnamfnkbaaGreatDoorTwo
namespace Go.Proofs.YtefhcgnamfnkbaaGreatDoor.Pure
open Go.RowKit Go.Proofs.YtefhcgnamfnkbaaGreatDoor.Pr Go.Proofs.YtefhcgnamfnkbaaGreatDoorW.PrintWords Go.Proofs.YtefhcgnamfnkbaaGreatDoorW.PrintLast

theorem B_inj {a b : List UInt8} (h : B a = B b) : a = b := by
  have := congrArg (fun s : ByteArray => s.data.toList) h
  exact this
theorem numT_inj {x y : Q} (h : numT x = numT y) : x.1 = y.1 := by
  unfold numT sgL at h
  have hx := dec_no45 x.1.natAbs
  have hy := dec_no45 y.1.natAbs
  by_cases h1 : x.1 < 0
  · by_cases h2 : y.1 < 0
    · rw [if_pos h1, if_pos h2] at h
      simp only [List.cons_append, List.nil_append, List.cons.injEq, true_and] at h
      have := dec_inj h
      omega
    · rw [if_pos h1, if_neg h2, List.nil_append] at h
      rw [← h] at hy
      exact absurd rfl hy
  · by_cases h2 : y.1 < 0
    · rw [if_neg h1, if_pos h2, List.nil_append] at h
      rw [h] at hx
      exact absurd rfl hx
    · rw [if_neg h1, if_neg h2, List.nil_append, List.nil_append] at h
      have := dec_inj h
      omega
theorem denT_inj {x y : Q} (h : denT x = denT y) : x.2 = y.2 := dec_inj h
/-- The texts as the program has them. -/
def nt (x : Q) : ByteArray := B (numT x)
def dt (x : Q) : ByteArray := B (denT x)
theorem nt_inj {x y : Q} (h : nt x = nt y) (h2 : dt x = dt y) : x = y := Prod.ext (numT_inj (B_inj h)) (denT_inj (B_inj h2))
/-- A fraction in lowest terms, of a size. -/
def Sz (A : Nat) (x : Q) : Prop := qLow x ∧ x.1.natAbs ≤ A ∧ x.2 ≤ A
theorem sz_mono {A A' : Nat} {x : Q} (h : Sz A x) (ha : A ≤ A') : Sz A' x := ⟨h.1, Nat.le_trans h.2.1 ha, Nat.le_trans h.2.2 ha⟩
/-- Few digits. -/
def Fit (x : Q) : Prop := (Lib.decDigits x.1.natAbs).length ≤ 300 ∧ (denT x).length ≤ 300
theorem fit_of {A : Nat} {x : Q} (h : Sz A x) (hA : A < 10 ^ (299 + 1)) : Fit x :=
  ⟨dec_len_le 299 _ (Nat.lt_of_le_of_lt h.2.1 hA), dec_len_le 299 _ (Nat.lt_of_le_of_lt h.2.2 hA)⟩
theorem can_le (z : Int) (d : Nat) (_h : 0 < d) : (can (z, d)).1.natAbs ≤ z.natAbs ∧ (can (z, d)).2 ≤ d := by
  constructor
  · show (canN z d).natAbs ≤ _
    rw [can_abs]
    exact Nat.div_le_self _ _
  · exact Nat.div_le_self _ _
theorem can_sz {A : Nat} (z : Int) (d : Nat) (h : 0 < d) (h1 : z.natAbs ≤ A) (h2 : d ≤ A) : Sz A (can (z, d)) :=
  ⟨can_qLow _ h, Nat.le_trans (can_le z d h).1 h1, Nat.le_trans (can_le z d h).2 h2⟩
theorem abs_mul_le {x : Int} {y A C : Nat} (h1 : x.natAbs ≤ A) (h2 : y ≤ C) : (x * (y : Int)).natAbs ≤ A * C := by
  rw [Int.natAbs_mul, Int.natAbs_natCast]
  exact Nat.mul_le_mul h1 h2
theorem add_sz {A C : Nat} {x y : Q} (hx : Sz A x) (hy : Sz C y) : Sz (2 * (A * C)) (qAdd x y) := by
  have h1 := abs_mul_le hx.2.1 hy.2.2
  have h2 := abs_mul_le hy.2.1 hx.2.2
  have h3 := Nat.mul_le_mul hx.2.2 hy.2.2
  rw [Nat.mul_comm C A] at h2
  refine can_sz _ _ (Nat.mul_pos hx.1.1 hy.1.1) ?_ (Nat.le_trans h3 (by omega))
  refine Nat.le_trans (Int.natAbs_add_le _ _) ?_
  omega
theorem sub_sz {A C : Nat} {x y : Q} (hx : Sz A x) (hy : Sz C y) : Sz (2 * (A * C)) (qSub x y) := by
  have h1 := abs_mul_le hx.2.1 hy.2.2
  have h2 := abs_mul_le hy.2.1 hx.2.2
  have h3 := Nat.mul_le_mul hx.2.2 hy.2.2
  rw [Nat.mul_comm C A] at h2
  refine can_sz _ _ (Nat.mul_pos hx.1.1 hy.1.1) ?_ (Nat.le_trans h3 (by omega))
  have := Int.natAbs_sub_le (x.1 * (y.2 : Int)) (y.1 * (x.2 : Int))
  omega
theorem mul_sz {A C : Nat} {x y : Q} (hx : Sz A x) (hy : Sz C y) : Sz (A * C) (qMul x y) := by
  refine can_sz _ _ (Nat.mul_pos hx.1.1 hy.1.1) ?_ (Nat.mul_le_mul hx.2.2 hy.2.2)
  rw [Int.natAbs_mul]
  exact Nat.mul_le_mul hx.2.1 hy.2.1
theorem abs_pos {z : Int} (h : z ≠ 0) : 0 < z.natAbs := by omega
theorem sign_abs {z : Int} (h : z ≠ 0) : z.sign.natAbs = 1 := by
  rcases Int.lt_or_gt_of_ne h with h1 | h1
  · rw [Int.sign_eq_neg_one_of_neg h1]; rfl
  · rw [Int.sign_eq_one_of_pos h1]; rfl
theorem div_sz {A C : Nat} {x y : Q} (hx : Sz A x) (hy : Sz C y) (h0 : y.1 ≠ 0) : Sz (A * C) (qDiv x y) := by
  refine can_sz _ _ (Nat.mul_pos hx.1.1 (abs_pos h0)) ?_ (Nat.mul_le_mul hx.2.2 hy.2.1)
  rw [Int.natAbs_mul, sign_abs h0, Nat.mul_one]
  exact abs_mul_le hx.2.1 hy.2.2

/-! ### reading what was written -/
theorem numT_len (x : Q) (h : Fit x) : (numT x).length ≤ 301 := by
  unfold numT sgL
  rw [List.length_append]
  have := h.1
  split <;> simp <;> omega
/-- What read makes of a fraction. -/
structure Rd (x : Q) (m : Bool) (N D : List Int) : Prop where
  n : V N = x.1.natAbs
  d : V D = x.2
  m : m = decide (x.1 < 0)
  hN : Nrm N
  hD : Nrm D
  lN : N.length ≤ 300
  lD : D.length ≤ 300
theorem read_num (x : Q) (hx : qLow x) (hf : Fit x) : ∃ K, ∀ k, K ≤ k → ∃ (m : Bool) (N D : List Int), exact_read.f k (nt x) (dt x) = some (m, N, D, 0) ∧ Rd x m N D := by
  obtain ⟨K, hK⟩ := read_all (numT x) (denT x) (by have := numT_len x hf; omega) (by have := hf.2; omega)
  refine ⟨K, fun k hk => ?_⟩
  obtain ⟨m, N, D, e, h1, h2, h3⟩ := hK k hk
  have he := h3 x hx rfl rfl hf.1 hf.2
  obtain ⟨y, y1, y2, y3, y4, y5, y6, y7, y8, y9, y10⟩ := h2 he
  have e1 := numT_inj y2
  have e2 := denT_inj y3
  refine ⟨m, N, D, by rw [← he]; exact h1, ?_⟩
  rw [← e1] at y4 y6
  rw [← e2] at y5
  exact ⟨y4, y5, y6, y7, y8, y9, y10⟩
theorem both_num (x y : Q) (hx : qLow x) (hy : qLow y) (fx : Fit x) (fy : Fit y) : ∃ K, ∀ k, K ≤ k → ∃ (m : Bool) (N D : List Int) (m' : Bool) (N' D' : List Int), exact_both.f k (nt x) (dt x) (nt y) (dt y) = some (m, N, D, m', N', D', 0) ∧ Rd x m N D ∧ Rd y m' N' D' := by
  obtain ⟨K1, h1⟩ := read_num x hx fx
  obtain ⟨K2, h2⟩ := read_num y hy fy
  refine ⟨K1 + K2, fun k hk => ?_⟩
  obtain ⟨m, N, D, e1, r1⟩ := h1 k (by omega)
  obtain ⟨m', N', D', e2, r2⟩ := h2 k (by omega)
  refine ⟨m, N, D, m', N', D', ?_, r1, r2⟩
  unfold exact_both.f
  rw [e1, Option.bind_some, if_pos rfl, e2, Option.bind_some]
/-- A number is made out of two, and written. -/
theorem two_num (F : Nat → Bool → List Int → List Int → Bool → List Int → List Int → Option (Bool × List Int × List Int × Int)) (x y z : Q) (hx : qLow x) (hy : qLow y) (fx : Fit x) (fy : Fit y) (hz : 0 < z.2) (fz : Fit (can z)) (K0 : Nat)
    (hF : ∀ k, K0 ≤ k → ∀ m N D m' N' D', Rd x m N D → Rd y m' N' D' → ∃ M P R, F k m N D m' N' D' = some (M, P, R, 0) ∧ sv M (V P) = z.1 ∧ V R = z.2 ∧ Nrm P ∧ Nrm R ∧ P.length ≤ 5000 ∧ R.length ≤ 5000) :
    ∃ K, ∀ k, K ≤ k → exact_two.f F k (nt x) (dt x) (nt y) (dt y) = some (nt (can z), dt (can z), 0) := by
  obtain ⟨K1, h1⟩ := both_num x y hx hy fx fy
  refine ⟨K0 + K1 + (z.2 + 2000000000), fun k hk => ?_⟩
  obtain ⟨m, N, D, m', N', D', e1, r1, r2⟩ := h1 k (by omega)
  obtain ⟨M, P, R, e2, s1, s2, s3, s4, s5, s6⟩ := hF k (by omega) m N D m' N' D' r1 r2
  have hc : can (sv M (V P), V R) = can z := by rw [s1, s2]
  have l1 : P.length ≤ 600000 := Nat.le_trans s5 (by decide)
  have l2 : R.length ≤ 600000 := Nat.le_trans s6 (by decide)
  have l3 : 0 < V R := by rw [s2]; exact hz
  have l4 : V R + 2000000000 ≤ k := by rw [s2]; exact Nat.le_trans (Nat.le_add_left _ _) hk
  have hw := write_f M P R s3 s4 l1 l2 l3 (by rw [hc]; exact fz.1) (by rw [hc]; exact fz.2) k l4
  rw [hc] at hw
  unfold exact_two.f
  rw [e1, Option.bind_some, if_pos rfl, e2, Option.bind_some, if_pos rfl]
  show (exact_number_write.f k M P R).bind _ = _
  rw [hw, Option.bind_some]
  rfl
end Go.Proofs.YtefhcgnamfnkbaaGreatDoor.Pure
