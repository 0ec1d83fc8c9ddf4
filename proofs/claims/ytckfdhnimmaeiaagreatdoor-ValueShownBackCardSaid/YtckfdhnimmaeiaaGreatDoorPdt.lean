/- Dates in plain Lean: each day has one date, and the next day the next one. -/
namespace Go.Proofs.YtckfdhnimmaeiaaGreatDoor.Sd
/-- The days from 1900 on before a year. -/
def bef (y : Int) : Int := 365 * (y - 1900) + (y - 1) / 4 - (y - 1) / 100 + (y - 1) / 400 - 460
def leap (y : Int) : Bool := decide (y % 4 = 0) && (decide (¬ y % 100 = 0) || decide (y % 400 = 0))
/-- The length of month i, from 0. -/
def len (b : Bool) (i : Nat) : Int := [31, if b then 29 else 28, 31, 30, 31, 30, 31, 31, 30, 31, 30, 31].getD i 0
/-- The days of a year before month i. -/
def cum (b : Bool) : Nat → Int
  | 0 => 0
  | i + 1 => cum b i + len b i
theorem bef_next (y : Int) : bef (y + 1) = bef y + 365 + (if leap y then 1 else 0) := by
  unfold bef leap
  by_cases h4 : y % 4 = 0
  · by_cases h100 : y % 100 = 0
    · by_cases h400 : y % 400 = 0
      · simp only [h4, h100, h400, decide_true, not_true, decide_false, Bool.or_true, Bool.and_true, if_true]; omega
      · simp only [h4, h100, h400, decide_true, not_true, decide_false, Bool.or_false, Bool.and_false]; simp; omega
    · simp only [h4, h100, decide_true, not_false_eq_true, Bool.true_or, Bool.and_true, if_true]; omega
  · simp only [h4, decide_false, Bool.false_and]; simp; omega
theorem cum_year (b : Bool) : cum b 12 = 365 + (if b then 1 else 0) := by cases b <;> decide
theorem bef_cum (y : Int) : bef (y + 1) = bef y + cum (leap y) 12 := by rw [cum_year, bef_next]; omega
theorem len_pos (b : Bool) {i : Nat} (h : i < 12) : 28 ≤ len b i ∧ len b i ≤ 31 := by
  have : i = 0 ∨ i = 1 ∨ i = 2 ∨ i = 3 ∨ i = 4 ∨ i = 5 ∨ i = 6 ∨ i = 7 ∨ i = 8 ∨ i = 9 ∨ i = 10 ∨ i = 11 := by omega
  rcases this with rfl | rfl | rfl | rfl | rfl | rfl | rfl | rfl | rfl | rfl | rfl | rfl <;> cases b <;> decide
theorem cum_mono (b : Bool) : ∀ (d i : Nat), i + d ≤ 12 → cum b i ≤ cum b (i + d)
  | 0, _, _ => Int.le_refl _
  | d + 1, i, h => by
    have h1 := cum_mono b d i (by omega)
    have h2 := len_pos b (i := i + d) (by omega)
    show cum b i ≤ cum b (i + d) + len b (i + d)
    omega
theorem cum_le (b : Bool) {i j : Nat} (h : i ≤ j) (hj : j ≤ 12) : cum b i ≤ cum b j := by
  have h1 := cum_mono b (j - i) i (by omega)
  rwa [show i + (j - i) = j by omega] at h1
theorem bef_mono : ∀ (d : Nat) (y : Int), bef y ≤ bef (y + d)
  | 0, y => by rw [show y + ((0 : Nat) : Int) = y by omega]; exact Int.le_refl _
  | d + 1, y => by
    have h1 := bef_mono d y
    have h2 := bef_next (y + d)
    rw [show y + ((d + 1 : Nat) : Int) = y + d + 1 by omega, h2]
    split <;> omega
theorem bef_le {y z : Int} (h : y ≤ z) : bef y ≤ bef z := by
  have h1 := bef_mono (z - y).toNat y
  rwa [show y + ((z - y).toNat : Int) = z by omega] at h1
/-- The date of day n: a year, a month from 0, a day. -/
structure Dat (n y : Int) (i : Nat) (d : Int) : Prop where
  mon : i < 12
  lo : 1 ≤ d
  hi : d ≤ len (leap y) i
  is : bef y + cum (leap y) i + d = n
theorem Dat.year {n y d : Int} {i : Nat} (h : Dat n y i d) : bef y < n ∧ n ≤ bef (y + 1) := by
  have h1 := cum_le (leap y) (i := 0) (j := i) (by omega) (by have := h.mon; omega)
  have h2 := cum_le (leap y) (i := i + 1) (j := 12) (by have := h.mon; omega) (by omega)
  have h3 : cum (leap y) (i + 1) = cum (leap y) i + len (leap y) i := rfl
  have h4 : cum (leap y) 0 = 0 := rfl
  have h5 := bef_cum y
  have := h.lo; have := h.hi; have := h.is
  omega
theorem Dat.one {n y z d e : Int} {i j : Nat} (h : Dat n y i d) (k : Dat n z j e) : y = z ∧ i = j ∧ d = e := by
  have h1 := h.year
  have k1 := k.year
  have hy : y = z := by
    rcases Int.lt_trichotomy y z with hl | hl | hl
    · have := bef_le (show y + 1 ≤ z by omega); omega
    · exact hl
    · have := bef_le (show z + 1 ≤ y by omega); omega
  subst hy
  have hi := h.is; have ki := k.is
  have hij : i = j := by
    rcases Nat.lt_trichotomy i j with hl | hl | hl
    · have h2 := cum_le (leap y) (i := i + 1) (j := j) (by omega) (by have := k.mon; omega)
      have h3 : cum (leap y) (i + 1) = cum (leap y) i + len (leap y) i := rfl
      have := h.hi; have := k.lo
      omega
    · exact hl
    · have h2 := cum_le (leap y) (i := j + 1) (j := i) (by omega) (by have := h.mon; omega)
      have h3 : cum (leap y) (j + 1) = cum (leap y) j + len (leap y) j := rfl
      have := k.hi; have := h.lo
      omega
  subst hij
  exact ⟨rfl, rfl, by omega⟩
/-- The next day has the next date. -/
theorem Dat.next {n y d : Int} {i : Nat} (h : Dat n y i d) :
    (d < len (leap y) i ∧ Dat (n + 1) y i (d + 1)) ∨ (d = len (leap y) i ∧ i < 11 ∧ Dat (n + 1) y (i + 1) 1) ∨ (d = len (leap y) i ∧ i = 11 ∧ Dat (n + 1) (y + 1) 0 1) := by
  have h1 := h.mon; have h2 := h.lo; have h3 := h.hi; have h4 := h.is
  have h5 : cum (leap y) (i + 1) = cum (leap y) i + len (leap y) i := rfl
  by_cases hd : d < len (leap y) i
  · exact .inl ⟨hd, h1, by omega, by omega, by omega⟩
  · have hd2 : d = len (leap y) i := by omega
    by_cases hi : i < 11
    · exact .inr (.inl ⟨hd2, hi, by omega, by omega, by have := len_pos (leap y) (i := i + 1) (by omega); omega, by omega⟩)
    · obtain rfl : i = 11 := by omega
      refine .inr (.inr ⟨hd2, rfl, by omega, by omega, by have := len_pos (leap (y + 1)) (i := 0) (by omega); omega, ?_⟩)
      have h6 := bef_cum y
      have h7 : cum (leap (y + 1)) 0 = 0 := rfl
      have h8 : cum (leap y) 12 = cum (leap y) 11 + len (leap y) 11 := rfl
      omega
/-- The law: what follows the date of n. -/
theorem Dat.step {n y z d e : Int} {i j : Nat} (h : Dat n y i d) (k : Dat (n + 1) z j e) :
    (e = 1 ∧ d = len (leap y) i ∧ ((j = i + 1 ∧ z = y) ∨ (j = 0 ∧ i = 11 ∧ z = y + 1))) ∨ (¬ e = 1 ∧ e = d + 1 ∧ j = i ∧ z = y) := by
  rcases h.next with ⟨h1, h2⟩ | ⟨h1, h2, h3⟩ | ⟨h1, h2, h3⟩
  · obtain ⟨r1, r2, r3⟩ := k.one h2
    have := h.lo
    exact .inr ⟨by omega, by omega, r2, r1⟩
  · obtain ⟨r1, r2, r3⟩ := k.one h3
    exact .inl ⟨r3, h1, .inl ⟨r2, r1⟩⟩
  · obtain ⟨r1, r2, r3⟩ := k.one h3
    exact .inl ⟨r3, h1, .inr ⟨r2, h2, r1⟩⟩
end Go.Proofs.YtckfdhnimmaeiaaGreatDoor.Sd
