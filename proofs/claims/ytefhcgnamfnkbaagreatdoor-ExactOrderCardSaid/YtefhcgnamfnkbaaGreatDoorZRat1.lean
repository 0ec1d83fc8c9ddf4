/- Fractions: whole numbers over natural ones, in lowest terms. -/
namespace Go.Proofs.YtefhcgnamfnkbaaGreatDoor.Pure

/-- Lowest terms. -/
def Low (z : Int) (d : Nat) : Prop := 0 < d ∧ Nat.gcd z.natAbs d = 1
def canN (z : Int) (d : Nat) : Int := z / (Nat.gcd z.natAbs d : Nat)
def canD (z : Int) (d : Nat) : Nat := d / Nat.gcd z.natAbs d
theorem gcd_pos (z : Int) (d : Nat) (h : 0 < d) : 0 < Nat.gcd z.natAbs d := Nat.gcd_pos_of_pos_right _ h
theorem can_back (z : Int) (d : Nat) : canN z d * (Nat.gcd z.natAbs d : Nat) = z ∧ canD z d * Nat.gcd z.natAbs d = d := by
  constructor
  · unfold canN
    exact Int.ediv_mul_cancel (Int.ofNat_dvd_left.2 (Nat.gcd_dvd_left _ _))
  · exact Nat.div_mul_cancel (Nat.gcd_dvd_right _ _)
theorem can_abs (z : Int) (d : Nat) : (canN z d).natAbs = z.natAbs / Nat.gcd z.natAbs d := by
  have h := (can_back z d).1
  have h2 := congrArg Int.natAbs h
  rw [Int.natAbs_mul, Int.natAbs_natCast] at h2
  rcases Nat.eq_zero_or_pos (Nat.gcd z.natAbs d) with h0 | h0
  · unfold canN
    rw [h0]; simp
  · exact (Nat.div_eq_of_eq_mul_left h0 h2.symm).symm
theorem can_low (z : Int) (d : Nat) (h : 0 < d) : Low (canN z d) (canD z d) := by
  have hg := gcd_pos z d h
  refine ⟨Nat.div_pos (Nat.le_of_dvd h (Nat.gcd_dvd_right _ _)) hg, ?_⟩
  rw [can_abs]
  unfold canD
  rw [Nat.gcd_div (Nat.gcd_dvd_left _ _) (Nat.gcd_dvd_right _ _)]
  exact Nat.div_self hg
theorem can_cross (z : Int) (d : Nat) : canN z d * (d : Int) = z * (canD z d : Int) := by
  obtain ⟨h1, h2⟩ := can_back z d
  have h3 : ((canD z d : Nat) : Int) * ((Nat.gcd z.natAbs d : Nat) : Int) = (d : Int) := by rw [← Int.natCast_mul, h2]
  calc canN z d * (d : Int) = canN z d * (((canD z d : Nat) : Int) * ((Nat.gcd z.natAbs d : Nat) : Int)) := by rw [h3]
    _ = (canN z d * ((Nat.gcd z.natAbs d : Nat) : Int)) * ((canD z d : Nat) : Int) := by rw [Int.mul_comm ((canD z d : Nat) : Int), Int.mul_assoc]
    _ = z * (canD z d : Int) := by rw [h1]
/-- Two fractions in lowest terms with one value are one. -/
theorem low_unique {z w : Int} {d e : Nat} (h1 : Low z d) (h2 : Low w e) (h : z * (e : Int) = w * (d : Int)) : z = w ∧ d = e := by
  have ha := congrArg Int.natAbs h
  rw [Int.natAbs_mul, Int.natAbs_mul, Int.natAbs_natCast, Int.natAbs_natCast] at ha
  have d1 : d ∣ e := by
    have : d ∣ z.natAbs * e := ⟨w.natAbs, by rw [ha, Nat.mul_comm]⟩
    exact Nat.Coprime.dvd_of_dvd_mul_left (Nat.Coprime.symm h1.2) this
  have d2 : e ∣ d := by
    have : e ∣ w.natAbs * d := ⟨z.natAbs, by rw [← ha, Nat.mul_comm]⟩
    exact Nat.Coprime.dvd_of_dvd_mul_left (Nat.Coprime.symm h2.2) this
  have hde : d = e := Nat.dvd_antisymm d1 d2
  subst hde
  refine ⟨?_, rfl⟩
  exact Int.eq_of_mul_eq_mul_right (by have := h1.1; omega) h
theorem can_unique {z w : Int} {d e : Nat} (hd : 0 < d) (he : 0 < e) (h : z * (e : Int) = w * (d : Int)) : canN z d = canN w e ∧ canD z d = canD w e := by
  refine low_unique (can_low z d hd) (can_low w e he) ?_
  have c1 := can_cross z d
  have c2 := can_cross w e
  have hd2 : (d : Int) ≠ 0 := by omega
  have he2 : (e : Int) ≠ 0 := by omega
  -- multiply by d * e
  have key : (canN z d * (canD w e : Int)) * ((d : Int) * (e : Int)) = (canN w e * (canD z d : Int)) * ((d : Int) * (e : Int)) := by
    calc (canN z d * (canD w e : Int)) * ((d : Int) * (e : Int)) = (canN z d * (d : Int)) * (e : Int) * (canD w e : Int) := by ac_rfl
      _ = (z * (canD z d : Int)) * (e : Int) * (canD w e : Int) := by rw [c1]
      _ = (z * (e : Int)) * (canD z d : Int) * (canD w e : Int) := by ac_rfl
      _ = (w * (d : Int)) * (canD z d : Int) * (canD w e : Int) := by rw [h]
      _ = (w * (canD w e : Int)) * (canD z d : Int) * (d : Int) := by ac_rfl
      _ = (canN w e * (e : Int)) * (canD z d : Int) * (d : Int) := by rw [c2]
      _ = (canN w e * (canD z d : Int)) * ((d : Int) * (e : Int)) := by ac_rfl
  exact Int.eq_of_mul_eq_mul_right (Int.mul_ne_zero hd2 he2) key
theorem can_self {z : Int} {d : Nat} (h : Low z d) : canN z d = z ∧ canD z d = d := by
  unfold canN canD
  rw [h.2]
  exact ⟨Int.ediv_one z, Nat.div_one d⟩

/-! ### Sums and products -/
/-- A fraction: numerator and denominator. -/
abbrev Q := Int × Nat
def qLow (x : Q) : Prop := Low x.1 x.2
def qEq (x y : Q) : Prop := x.1 * (y.2 : Int) = y.1 * (x.2 : Int)
def can (x : Q) : Q := (canN x.1 x.2, canD x.1 x.2)
def rAdd (x y : Q) : Q := (x.1 * (y.2 : Int) + y.1 * (x.2 : Int), x.2 * y.2)
def rSub (x y : Q) : Q := (x.1 * (y.2 : Int) - y.1 * (x.2 : Int), x.2 * y.2)
def rMul (x y : Q) : Q := (x.1 * y.1, x.2 * y.2)
/-- A quotient; the sign stands at the numerator. -/
def rDiv (x y : Q) : Q := (x.1 * (y.2 : Int) * y.1.sign, x.2 * y.1.natAbs)
theorem can_qLow (x : Q) (h : 0 < x.2) : qLow (can x) := can_low _ _ h
theorem can_eq (x : Q) : qEq (can x) x := can_cross _ _
theorem can_of_eq {x y : Q} (hx : 0 < x.2) (hy : 0 < y.2) (h : qEq x y) : can x = can y := by
  obtain ⟨h1, h2⟩ := can_unique hx hy h
  exact Prod.ext h1 h2
theorem low_eq {x y : Q} (hx : qLow x) (hy : qLow y) (h : qEq x y) : x = y := by
  obtain ⟨h1, h2⟩ := low_unique hx hy h
  exact Prod.ext h1 h2
theorem can_low_self {x : Q} (h : qLow x) : can x = x := by
  obtain ⟨h1, h2⟩ := can_self h
  exact Prod.ext h1 h2
theorem qEq.symm {x y : Q} (h : qEq x y) : qEq y x := Eq.symm h
theorem qEq.trans {x y z : Q} (hy : 0 < y.2) (h : qEq x y) (g : qEq y z) : qEq x z := by
  unfold qEq at *
  have hy2 : (y.2 : Int) ≠ 0 := by omega
  refine Int.eq_of_mul_eq_mul_right hy2 ?_
  calc x.1 * (z.2 : Int) * (y.2 : Int) = x.1 * (y.2 : Int) * (z.2 : Int) := by ac_rfl
    _ = y.1 * (x.2 : Int) * (z.2 : Int) := by rw [h]
    _ = y.1 * (z.2 : Int) * (x.2 : Int) := by ac_rfl
    _ = z.1 * (y.2 : Int) * (x.2 : Int) := by rw [g]
    _ = z.1 * (x.2 : Int) * (y.2 : Int) := by ac_rfl
theorem add_eq {x x' y : Q} (h : qEq x x') : qEq (rAdd x y) (rAdd x' y) := by
  unfold qEq rAdd at *
  simp only [Int.natCast_mul]
  rw [Int.add_mul, Int.add_mul]
  have e1 : x.1 * (y.2 : Int) * ((x'.2 : Int) * (y.2 : Int)) = x'.1 * (y.2 : Int) * ((x.2 : Int) * (y.2 : Int)) := by
    calc x.1 * (y.2 : Int) * ((x'.2 : Int) * (y.2 : Int)) = x.1 * (x'.2 : Int) * ((y.2 : Int) * (y.2 : Int)) := by ac_rfl
      _ = x'.1 * (x.2 : Int) * ((y.2 : Int) * (y.2 : Int)) := by rw [h]
      _ = x'.1 * (y.2 : Int) * ((x.2 : Int) * (y.2 : Int)) := by ac_rfl
  have e2 : y.1 * (x.2 : Int) * ((x'.2 : Int) * (y.2 : Int)) = y.1 * (x'.2 : Int) * ((x.2 : Int) * (y.2 : Int)) := by ac_rfl
  rw [e1, e2]
theorem add_comm' (x y : Q) : rAdd x y = rAdd y x := by
  unfold rAdd
  rw [Int.add_comm, Nat.mul_comm]
theorem mul_eq {x x' y : Q} (h : qEq x x') : qEq (rMul x y) (rMul x' y) := by
  unfold qEq rMul at *
  simp only [Int.natCast_mul]
  calc x.1 * y.1 * ((x'.2 : Int) * (y.2 : Int)) = x.1 * (x'.2 : Int) * (y.1 * (y.2 : Int)) := by ac_rfl
    _ = x'.1 * (x.2 : Int) * (y.1 * (y.2 : Int)) := by rw [h]
    _ = x'.1 * y.1 * ((x.2 : Int) * (y.2 : Int)) := by ac_rfl
theorem mul_comm' (x y : Q) : rMul x y = rMul y x := by
  unfold rMul
  rw [Int.mul_comm, Nat.mul_comm]
theorem sub_eq {x x' y : Q} (h : qEq x x') : qEq (rSub x y) (rSub x' y) := by
  unfold qEq rSub at *
  simp only [Int.natCast_mul]
  rw [Int.sub_mul, Int.sub_mul]
  have e1 : x.1 * (y.2 : Int) * ((x'.2 : Int) * (y.2 : Int)) = x'.1 * (y.2 : Int) * ((x.2 : Int) * (y.2 : Int)) := by
    calc x.1 * (y.2 : Int) * ((x'.2 : Int) * (y.2 : Int)) = x.1 * (x'.2 : Int) * ((y.2 : Int) * (y.2 : Int)) := by ac_rfl
      _ = x'.1 * (x.2 : Int) * ((y.2 : Int) * (y.2 : Int)) := by rw [h]
      _ = x'.1 * (y.2 : Int) * ((x.2 : Int) * (y.2 : Int)) := by ac_rfl
  have e2 : y.1 * (x.2 : Int) * ((x'.2 : Int) * (y.2 : Int)) = y.1 * (x'.2 : Int) * ((x.2 : Int) * (y.2 : Int)) := by ac_rfl
  rw [e1, e2]
theorem add_assoc' (x y z : Q) : qEq (rAdd (rAdd x y) z) (rAdd x (rAdd y z)) := by
  unfold qEq rAdd
  simp only [Int.natCast_mul, Int.add_mul]
  ac_rfl
theorem distrib (x y z : Q) : qEq (rMul x (rAdd y z)) (rAdd (rMul x y) (rMul x z)) := by
  unfold qEq rAdd rMul
  simp only [Int.natCast_mul, Int.add_mul, Int.mul_add]
  ac_rfl
theorem add_sub (x y : Q) : qEq (rSub (rAdd x y) y) x := by
  unfold qEq rAdd rSub
  simp only [Int.natCast_mul, Int.add_mul, Int.sub_mul]
  have e : y.1 * (x.2 : Int) * (y.2 : Int) * (x.2 : Int) = y.1 * ((x.2 : Int) * (y.2 : Int)) * (x.2 : Int) := by ac_rfl
  rw [e, Int.add_sub_cancel]
  ac_rfl
theorem div_mul (x y : Q) : qEq (rMul (rDiv x y) y) x := by
  unfold qEq rMul rDiv
  simp only [Int.natCast_mul]
  have e : y.1.sign * y.1 = (y.1.natAbs : Int) := by rw [Int.mul_comm]; exact Int.mul_sign_self y.1
  calc x.1 * (y.2 : Int) * y.1.sign * y.1 * (x.2 : Int) = x.1 * (y.2 : Int) * (y.1.sign * y.1) * (x.2 : Int) := by ac_rfl
    _ = x.1 * (y.2 : Int) * (y.1.natAbs : Int) * (x.2 : Int) := by rw [e]
    _ = x.1 * ((x.2 : Int) * (y.1.natAbs : Int) * (y.2 : Int)) := by ac_rfl

/-! ### The laws of the field, of fractions in lowest terms -/
def qAdd (x y : Q) : Q := can (rAdd x y)
def qSub (x y : Q) : Q := can (rSub x y)
def qMul (x y : Q) : Q := can (rMul x y)
def qDiv (x y : Q) : Q := can (rDiv x y)
theorem add_pos {x y : Q} (hx : 0 < x.2) (hy : 0 < y.2) : 0 < (rAdd x y).2 := Nat.mul_pos hx hy
theorem qAdd_assoc (a b c : Q) (ha : qLow a) (hb : qLow b) (hc : qLow c) : qAdd (qAdd a b) c = qAdd a (qAdd b c) := by
  have pab := can_qLow (rAdd a b) (add_pos ha.1 hb.1)
  have pbc := can_qLow (rAdd b c) (add_pos hb.1 hc.1)
  refine can_of_eq (add_pos pab.1 hc.1) (add_pos ha.1 pbc.1) ?_
  have e1 : qEq (rAdd (can (rAdd a b)) c) (rAdd (rAdd a b) c) := add_eq (can_eq _)
  have e2 := add_assoc' a b c
  have e3 : qEq (rAdd a (rAdd b c)) (rAdd a (can (rAdd b c))) := by
    rw [add_comm' a (rAdd b c), add_comm' a (can (rAdd b c))]
    exact add_eq (can_eq _).symm
  exact (e1.trans (add_pos (add_pos ha.1 hb.1) hc.1) e2).trans (add_pos ha.1 (add_pos hb.1 hc.1)) e3
theorem q_distrib (a b c : Q) (ha : qLow a) (hb : qLow b) (hc : qLow c) : qMul a (qAdd b c) = qAdd (qMul a b) (qMul a c) := by
  have pbc := can_qLow (rAdd b c) (add_pos hb.1 hc.1)
  have pab := can_qLow (rMul a b) (Nat.mul_pos ha.1 hb.1)
  have pac := can_qLow (rMul a c) (Nat.mul_pos ha.1 hc.1)
  refine can_of_eq (Nat.mul_pos ha.1 pbc.1) (add_pos pab.1 pac.1) ?_
  have e1 : qEq (rMul a (can (rAdd b c))) (rMul a (rAdd b c)) := by
    rw [mul_comm' a (can (rAdd b c)), mul_comm' a (rAdd b c)]
    exact mul_eq (can_eq _)
  have e2 := distrib a b c
  have e3 : qEq (rAdd (rMul a b) (rMul a c)) (rAdd (can (rMul a b)) (rMul a c)) := add_eq (can_eq _).symm
  have e4 : qEq (rAdd (can (rMul a b)) (rMul a c)) (rAdd (can (rMul a b)) (can (rMul a c))) := by
    rw [add_comm' _ (rMul a c), add_comm' _ (can (rMul a c))]
    exact add_eq (can_eq _).symm
  have p1 : 0 < (rMul a (rAdd b c)).2 := Nat.mul_pos ha.1 (add_pos hb.1 hc.1)
  have p2 : 0 < (rAdd (rMul a b) (rMul a c)).2 := add_pos (Nat.mul_pos ha.1 hb.1) (Nat.mul_pos ha.1 hc.1)
  have p3 : 0 < (rAdd (can (rMul a b)) (rMul a c)).2 := add_pos pab.1 (Nat.mul_pos ha.1 hc.1)
  exact ((e1.trans p1 e2).trans p2 e3).trans p3 e4
theorem qAdd_comm (a b : Q) : qAdd a b = qAdd b a := by unfold qAdd; rw [add_comm']
theorem q_add_sub (a b : Q) (ha : qLow a) (hb : qLow b) : qSub (qAdd a b) b = a := by
  have pab := can_qLow (rAdd a b) (add_pos ha.1 hb.1)
  have p : 0 < (rSub (can (rAdd a b)) b).2 := Nat.mul_pos pab.1 hb.1
  refine low_eq (can_qLow _ p) ha ?_
  have e1 : qEq (rSub (can (rAdd a b)) b) (rSub (rAdd a b) b) := sub_eq (can_eq _)
  have p2 : 0 < (rSub (rAdd a b) b).2 := Nat.mul_pos (add_pos ha.1 hb.1) hb.1
  exact (can_eq _).trans p (e1.trans p2 (add_sub a b))
theorem q_div_mul (a b : Q) (ha : qLow a) (hb : qLow b) (h0 : b.1 ≠ 0) : qMul (qDiv a b) b = a := by
  have pd : 0 < (rDiv a b).2 := Nat.mul_pos ha.1 (Int.natAbs_pos.2 h0)
  have pab := can_qLow (rDiv a b) pd
  have p : 0 < (rMul (can (rDiv a b)) b).2 := Nat.mul_pos pab.1 hb.1
  refine low_eq (can_qLow _ p) ha ?_
  have e1 : qEq (rMul (can (rDiv a b)) b) (rMul (rDiv a b) b) := mul_eq (can_eq _)
  have p2 : 0 < (rMul (rDiv a b) b).2 := Nat.mul_pos pd hb.1
  exact (can_eq _).trans p (e1.trans p2 (div_mul a b))
end Go.Proofs.YtefhcgnamfnkbaaGreatDoor.Pure
