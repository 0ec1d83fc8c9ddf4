/- Fractions: whole numbers over natural ones, in lowest terms. Fractions as the program has them: digits, read, write. Fractions as the program has them: sums, products, quotients. Fractions as the program has them: what Add, Sub, Mul, Div answer. Add, Sub, Mul, Div of fractions in lowest terms. -/
import Derived.Test.YtckfdhnimmaeiaaGreatDoorZn
import Derived.Test.YtckfdhnimmaeiaaGreatDoorPrx9
import Derived.Test.YtckfdhnimmaeiaaGreatDoorPrx11
import Derived.Test.YtckfdhnimmaeiaaGreatDoorPrx12
namespace Go.Proofs.YtckfdhnimmaeiaaGreatDoor.Pure
/-- Lowest terms. -/
def Low (z : Int) (d : Nat) : Prop := 0 < d ∧ Nat.gcd z.natAbs d = 1
def canN (z : Int) (d : Nat) : Int := z / (Nat.gcd z.natAbs d : Nat)
def canD (z : Int) (d : Nat) : Nat := d / Nat.gcd z.natAbs d
theorem gcd_pos (z : Int) (d : Nat) (h : 0 < d) : 0 < Nat.gcd z.natAbs d := Nat.gcd_pos_of_pos_right _ h
theorem can_back (z : Int) (d : Nat) : canN z d * (Nat.gcd z.natAbs d : Nat) = z ∧ canD z d * Nat.gcd z.natAbs d = d := by
  constructor
  · unfold canN
    exact Int.ediv_mul_cancel (Int.ofNat_dvd_left.2 (Nat.gcd_dvd_left _ _))
  · exact Nat.div_mul_cancel (Nat.gcd_dvd_right _ _)
theorem can_abs (z : Int) (d : Nat) : (canN z d).natAbs = z.natAbs / Nat.gcd z.natAbs d := by
  have h := (can_back z d).1
  have h2 := congrArg Int.natAbs h
  rw [Int.natAbs_mul, Int.natAbs_natCast] at h2
  rcases Nat.eq_zero_or_pos (Nat.gcd z.natAbs d) with h0 | h0
  · unfold canN
    rw [h0]; simp
  · exact (Nat.div_eq_of_eq_mul_left h0 h2.symm).symm
theorem can_low (z : Int) (d : Nat) (h : 0 < d) : Low (canN z d) (canD z d) := by
  have hg := gcd_pos z d h
  refine ⟨Nat.div_pos (Nat.le_of_dvd h (Nat.gcd_dvd_right _ _)) hg, ?_⟩
  rw [can_abs]
  unfold canD
  rw [Nat.gcd_div (Nat.gcd_dvd_left _ _) (Nat.gcd_dvd_right _ _)]
  exact Nat.div_self hg
theorem can_cross (z : Int) (d : Nat) : canN z d * (d : Int) = z * (canD z d : Int) := by
  obtain ⟨h1, h2⟩ := can_back z d
  have h3 : ((canD z d : Nat) : Int) * ((Nat.gcd z.natAbs d : Nat) : Int) = (d : Int) := by rw [← Int.natCast_mul, h2]
  calc canN z d * (d : Int) = canN z d * (((canD z d : Nat) : Int) * ((Nat.gcd z.natAbs d : Nat) : Int)) := by rw [h3]
    _ = (canN z d * ((Nat.gcd z.natAbs d : Nat) : Int)) * ((canD z d : Nat) : Int) := by rw [Int.mul_comm ((canD z d : Nat) : Int), Int.mul_assoc]
    _ = z * (canD z d : Int) := by rw [h1]
/-- Two fractions in lowest terms with one value are one. -/
theorem low_unique {z w : Int} {d e : Nat} (h1 : Low z d) (h2 : Low w e) (h : z * (e : Int) = w * (d : Int)) : z = w ∧ d = e := by
  have ha := congrArg Int.natAbs h
  rw [Int.natAbs_mul, Int.natAbs_mul, Int.natAbs_natCast, Int.natAbs_natCast] at ha
  have d1 : d ∣ e := by
    have : d ∣ z.natAbs * e := ⟨w.natAbs, by rw [ha, Nat.mul_comm]⟩
    exact Nat.Coprime.dvd_of_dvd_mul_left (Nat.Coprime.symm h1.2) this
  have d2 : e ∣ d := by
    have : e ∣ w.natAbs * d := ⟨z.natAbs, by rw [← ha, Nat.mul_comm]⟩
    exact Nat.Coprime.dvd_of_dvd_mul_left (Nat.Coprime.symm h2.2) this
  have hde : d = e := Nat.dvd_antisymm d1 d2
  subst hde
  refine ⟨?_, rfl⟩
  exact Int.eq_of_mul_eq_mul_right (by have := h1.1; omega) h
theorem can_unique {z w : Int} {d e : Nat} (hd : 0 < d) (he : 0 < e) (h : z * (e : Int) = w * (d : Int)) : canN z d = canN w e ∧ canD z d = canD w e := by
  refine low_unique (can_low z d hd) (can_low w e he) ?_
  have c1 := can_cross z d
  have c2 := can_cross w e
  have hd2 : (d : Int) ≠ 0 := by omega
  have he2 : (e : Int) ≠ 0 := by omega
  -- multiply by d * e
  have key : (canN z d * (canD w e : Int)) * ((d : Int) * (e : Int)) = (canN w e * (canD z d : Int)) * ((d : Int) * (e : Int)) := by
    calc (canN z d * (canD w e : Int)) * ((d : Int) * (e : Int)) = (canN z d * (d : Int)) * (e : Int) * (canD w e : Int) := by ac_rfl
      _ = (z * (canD z d : Int)) * (e : Int) * (canD w e : Int) := by rw [c1]
      _ = (z * (e : Int)) * (canD z d : Int) * (canD w e : Int) := by ac_rfl
      _ = (w * (d : Int)) * (canD z d : Int) * (canD w e : Int) := by rw [h]
      _ = (w * (canD w e : Int)) * (canD z d : Int) * (d : Int) := by ac_rfl
      _ = (canN w e * (e : Int)) * (canD z d : Int) * (d : Int) := by rw [c2]
      _ = (canN w e * (canD z d : Int)) * ((d : Int) * (e : Int)) := by ac_rfl
  exact Int.eq_of_mul_eq_mul_right (Int.mul_ne_zero hd2 he2) key
theorem can_self {z : Int} {d : Nat} (h : Low z d) : canN z d = z ∧ canD z d = d := by
  unfold canN canD
  rw [h.2]
  exact ⟨Int.ediv_one z, Nat.div_one d⟩
/-! ### Sums and products -/
/-- A fraction: numerator and denominator. -/
abbrev Q := Int × Nat
def qLow (x : Q) : Prop := Low x.1 x.2
def qEq (x y : Q) : Prop := x.1 * (y.2 : Int) = y.1 * (x.2 : Int)
def can (x : Q) : Q := (canN x.1 x.2, canD x.1 x.2)
theorem can_qLow (x : Q) (h : 0 < x.2) : qLow (can x) := can_low _ _ h
theorem can_of_eq {x y : Q} (hx : 0 < x.2) (hy : 0 < y.2) (h : qEq x y) : can x = can y := by
  obtain ⟨h1, h2⟩ := can_unique hx hy h
  exact Prod.ext h1 h2
theorem can_low_self {x : Q} (h : qLow x) : can x = x := by
  obtain ⟨h1, h2⟩ := can_self h
  exact Prod.ext h1 h2
theorem qEq.symm {x y : Q} (h : qEq x y) : qEq y x := Eq.symm h
theorem qEq.trans {x y z : Q} (hy : 0 < y.2) (h : qEq x y) (g : qEq y z) : qEq x z := by
  unfold qEq at *
  have hy2 : (y.2 : Int) ≠ 0 := by omega
  refine Int.eq_of_mul_eq_mul_right hy2 ?_
  calc x.1 * (z.2 : Int) * (y.2 : Int) = x.1 * (y.2 : Int) * (z.2 : Int) := by ac_rfl
    _ = y.1 * (x.2 : Int) * (z.2 : Int) := by rw [h]
    _ = y.1 * (z.2 : Int) * (x.2 : Int) := by ac_rfl
    _ = z.1 * (y.2 : Int) * (x.2 : Int) := by rw [g]
    _ = z.1 * (x.2 : Int) * (y.2 : Int) := by ac_rfl
/-! ### The laws of the field, of fractions in lowest terms -/
end Go.Proofs.YtckfdhnimmaeiaaGreatDoor.Pure
namespace Go.Proofs.YtckfdhnimmaeiaaGreatDoor.Pure
open Go.RowKit Go.Proofs.YtckfdhnimmaeiaaGreatDoor.Pr Go.Proofs.YtckfdhnimmaeiaaGreatDoorW.PrintWords Go.Proofs.YtckfdhnimmaeiaaGreatDoorW.PrintLast
/-! ### digits -/
def ten0 : List UInt8 := [48, 49, 50, 51, 52, 53, 54, 55, 56, 57]
theorem ten_contains (c : UInt8) : ten0.contains c = isD c := by
  have : ∀ n : Fin 256, ten0.contains (UInt8.ofNat n.val) = isD (UInt8.ofNat n.val) := by decide +kernel
  have e := this ⟨c.toNat, UInt8.toNat_lt c⟩
  simpa only [UInt8.ofNat_toNat] using e
theorem dropWhile_nil (p : UInt8 → Bool) : ∀ l : List UInt8, l.dropWhile p = [] ↔ ∀ c ∈ l, p c = true
  | [] => by simp
  | a :: l => by
    rw [List.dropWhile_cons]
    cases h : p a with
    | true => simp [h, dropWhile_nil p l]
    | false => simp [h]
theorem trim_empty (l : List UInt8) : Lib.trimS l ten0 = [] ↔ Dec l := by
  unfold Lib.trimS Lib.trimLeftS Lib.trimRightS
  have hf : (fun b => ten0.contains b) = isD := funext ten_contains
  rw [hf]
  constructor
  · intro h
    have h1 := (dropWhile_nil isD _).1 h
    have h2 : l.reverse.dropWhile isD = [] := by
      cases hc : l.reverse.dropWhile isD with
      | nil => rfl
      | cons a r =>
        exfalso
        have ha : isD a = false := by
          have := List.head?_dropWhile_not isD l.reverse
          rw [hc] at this
          simpa using this
        have := h1 a (by rw [hc]; simp)
        rw [ha] at this; cases this
    intro c hc
    exact (dropWhile_nil isD _).1 h2 c (by simpa using hc)
  · intro h
    have h2 : l.reverse.dropWhile isD = [] := (dropWhile_nil isD _).2 fun c hc => h c (by simpa using hc)
    rw [h2]; rfl
theorem bt0 (c : UInt8) (r : List UInt8) : bt (B (c :: r)) 0 = (c.toNat : Int) := by
  unfold bt
  rw [dif_pos (show (0 : Int).toNat < (B (c :: r)).size from by rw [B_size]; simp)]
  rfl
theorem digits_f (l : List UInt8) (hl : l.length ≤ 9223372036854775807) : ∃ b, exact_digits.f (B l) = some b ∧ (b = true ↔ Canon l) := by
  have htrim : strings_Trim.f (B l) ⟨#[48, 49, 50, 51, 52, 53, 54, 55, 56, 57]⟩ = some (B (Lib.trimS l ten0)) := by
    unfold strings_Trim.f
    rw [if_pos ⟨by rw [B_size]; omega, by decide, by decide⟩]
    rfl
  have hd : (((B (Lib.trimS l ten0)).toList == ([] : List UInt8)) = true) ↔ Dec l := by rw [beq_iff_eq, B_list, trim_empty]
  unfold exact_digits.f
  rw [B_list]
  cases l with
  | nil => exact ⟨false, by rw [if_pos rfl], ⟨fun h => (by cases h), fun h => absurd rfl h.1⟩⟩
  | cons c r =>
    rw [if_neg (by simp), if_pos (by rw [B_size]; simp), bt0]
    by_cases hc : c = 48
    · rw [if_pos (by rw [hc]; rfl)]
      by_cases hl1 : (c :: r).length = 1
      · rw [if_neg (by rw [B_size]; omega), htrim, Option.bind_some]
        exact ⟨_, rfl, hd.trans ⟨fun h => ⟨by simp, h, fun _ => hl1⟩, fun h => h.2.1⟩⟩
      · rw [if_pos (by rw [B_size]; simp only [List.length_cons] at hl1 ⊢; omega)]
        exact ⟨false, rfl, ⟨fun h => (by cases h), fun h => absurd (h.2.2 (by rw [hc]; rfl)) hl1⟩⟩
    · rw [if_neg (by intro e; exact hc (UInt8.toNat_inj.1 (show c.toNat = (48 : UInt8).toNat by show c.toNat = 48; omega))), htrim, Option.bind_some]
      exact ⟨_, rfl, hd.trans ⟨fun h => ⟨by simp, h, fun e => absurd (Option.some.inj e) hc⟩, fun h => h.2.1⟩⟩
/-! ### read -/
def sgL (z : Int) : List UInt8 := if z < 0 then [45] else []
/-- The texts of a fraction. -/
def numT (x : Q) : List UInt8 := sgL x.1 ++ Lib.decDigits x.1.natAbs
def denT (x : Q) : List UInt8 := Lib.decDigits x.2
theorem hasp45 (l : List UInt8) : stringslite_HasPrefix.f (B l) ⟨#[45]⟩ = some (decide (l.head? = some 45)) := by
  unfold stringslite_HasPrefix.f
  have h1 : (ByteArray.mk #[45]).size = 1 := rfl
  rw [h1]
  cases l with
  | nil => rw [if_neg (by rw [B_size]; simp)]; rfl
  | cons c r =>
    rw [if_pos (by rw [B_size]; simp only [List.length_cons]; omega), if_pos (by omega), if_pos (by rw [B_size]; simp only [List.length_cons]; omega)]
    have e : (B (c :: r)).extract 0 ((1 : Nat) : Int).toNat = B [c] := ex_take (c :: r) 1
    rw [e, B_list]
    have e2 : (ByteArray.mk #[45]).toList = [45] := B_list [45]
    rw [e2]
    congr 1
    rw [Bool.eq_iff_iff, beq_iff_eq, decide_eq_true_eq]
    simp
theorem cutp45 (l : List UInt8) : strings_CutPrefix.f (B l) ⟨#[45]⟩ = some (if l.head? = some 45 then (B (l.drop 1), true) else (B l, false)) := by
  unfold strings_CutPrefix.f stringslite_CutPrefix.f
  rw [hasp45, Option.bind_some]
  have h1 : (ByteArray.mk #[45]).size = 1 := rfl
  rw [h1]
  by_cases h : l.head? = some 45
  · rw [if_pos (decide_eq_true h), if_pos h]
    have hl : 1 ≤ l.length := by cases l with | nil => cases h | cons c r => simp
    rw [if_pos (by omega), if_pos (by rw [B_size]; omega)]
    have e : (B l).extract ((1 : Nat) : Int).toNat (B l).size = B (l.drop 1) := ex_drop l 1
    rw [e]; rfl
  · rw [if_neg (by simp [h]), if_neg h]; rfl
theorem dec_no45 (u : Nat) : (Lib.decDigits u).head? ≠ some 45 := by
  intro h
  have : (45 : UInt8) ∈ Lib.decDigits u := by
    cases hc : Lib.decDigits u with
    | nil => rw [hc] at h; cases h
    | cons c r => rw [hc] at h; simp only [List.head?_cons, Option.some.injEq] at h; rw [h]; exact List.mem_cons_self
  have := dec_Dec u 45 this
  revert this; decide
theorem one_f (g : List Int) (h : Nrm g) : exact_nat_one.f g = some (decide (V g = 1)) := by
  unfold exact_nat_one.f
  by_cases hl : g.length = 1
  · obtain ⟨d, rfl⟩ := List.length_eq_one_iff.1 hl
    rw [if_pos (by simp), if_pos (by simp)]
    have hd := h.1 d (by simp)
    have : rd [d] 0 = d := rfl
    rw [this]
    have hv : V [d] = d.toNat := by simp [V]
    rw [hv, Option.some.injEq, Bool.eq_iff_iff, beq_iff_eq, decide_eq_true_eq]
    omega
  · rw [if_neg (by omega)]
    have : V g ≠ 1 := by
      intro hv
      apply hl
      have : Nrm [(1 : Int)] := ⟨Dig.one (by decide), by decide⟩
      have := V_inj h this (by rw [hv]; rfl)
      rw [this]; rfl
    rw [decide_eq_false this]
/-- A text is read as a fraction, or there is an error. -/
theorem read_all (n d : List UInt8) (hn : n.length ≤ 9223372036854775807) (hd : d.length ≤ 9223372036854775807) : ∃ K, ∀ k, K ≤ k → ∃ (m : Bool) (N D : List Int) (e : Int), exact_read.f k (B n) (B d) = some (m, N, D, e) ∧
    (e = 0 → ∃ x : Q, qLow x ∧ n = numT x ∧ d = denT x ∧ V N = x.1.natAbs ∧ V D = x.2 ∧ m = decide (x.1 < 0) ∧ Nrm N ∧ Nrm D ∧ N.length ≤ 300 ∧ D.length ≤ 300 ∧ (Lib.decDigits x.1.natAbs).length ≤ 300 ∧ (denT x).length ≤ 300) ∧
    (∀ x : Q, qLow x → n = numT x → d = denT x → (Lib.decDigits x.1.natAbs).length ≤ 300 → (denT x).length ≤ 300 → e = 0) := by
  obtain ⟨s, m, hcut, hs⟩ : ∃ (s : List UInt8) (m : Bool), strings_CutPrefix.f (B n) ⟨#[45]⟩ = some (B s, m) ∧ n = (if m = true then 45 :: s else s) := by
    rw [cutp45]
    by_cases h : n.head? = some 45
    · rw [if_pos h]
      refine ⟨n.drop 1, true, rfl, ?_⟩
      cases n with
      | nil => cases h
      | cons c r => simp only [List.head?_cons, Option.some.injEq] at h; rw [h]; rfl
    · rw [if_neg h]; exact ⟨n, false, rfl, rfl⟩
  have hsl : s.length ≤ 9223372036854775807 := by
    rw [hs] at hn
    cases m
    · exact hn
    · simp only [if_true, List.length_cons] at hn; omega
  obtain ⟨b1, hb1, hc1⟩ := digits_f s (by omega)
  obtain ⟨b2, hb2, hc2⟩ := digits_f d (by omega)
  -- what a fraction's text is cut into
  have hx : ∀ x : Q, n = numT x → s = Lib.decDigits x.1.natAbs ∧ m = decide (x.1 < 0) := by
    intro x hnx
    unfold numT sgL at hnx
    have h45 := dec_no45 x.1.natAbs
    cases m with
    | true =>
      rw [if_pos rfl] at hs
      by_cases hz : x.1 < 0
      · rw [if_pos hz, hs] at hnx
        simp only [List.cons_append, List.nil_append, List.cons.injEq, true_and] at hnx
        exact ⟨hnx, (decide_eq_true hz).symm⟩
      · rw [if_neg hz, hs, List.nil_append] at hnx
        rw [← hnx] at h45
        exact absurd rfl h45
    | false =>
      rw [if_neg (by decide)] at hs
      by_cases hz : x.1 < 0
      · exfalso
        rw [if_pos hz, hs] at hnx
        have : strings_CutPrefix.f (B n) ⟨#[45]⟩ = some (B (n.drop 1), true) := by
          rw [cutp45, if_pos (by rw [hs, hnx]; rfl)]
        rw [this] at hcut
        simp at hcut
      · rw [if_neg hz, hs, List.nil_append] at hnx
        exact ⟨hnx, (decide_eq_false hz).symm⟩
  refine ⟨dv d + 2000000000, fun k hk => ?_⟩
  obtain ⟨k, rfl⟩ : ∃ z, k = z + 2 := ⟨k - 2, by omega⟩
  unfold exact_read.f
  rw [hcut, Option.bind_some]
  simp only
  rw [hb1, Option.bind_some]
  -- where the form is wrong
  have wrong : ∀ (x4 : ByteArray) (x5 : Bool) , ¬ (Canon s ∧ Canon d ∧ d ≠ [48] ∧ ¬ (s = [48] ∧ m = true)) → ∃ (m' : Bool) (N D : List Int) (e : Int), exact_read.j0 (k + 2) x4 x5 true (B n) (B d) = some (m', N, D, e) ∧
    (e = 0 → ∃ x : Q, qLow x ∧ n = numT x ∧ d = denT x ∧ V N = x.1.natAbs ∧ V D = x.2 ∧ m' = decide (x.1 < 0) ∧ Nrm N ∧ Nrm D ∧ N.length ≤ 300 ∧ D.length ≤ 300 ∧ (Lib.decDigits x.1.natAbs).length ≤ 300 ∧ (denT x).length ≤ 300) ∧
    (∀ x : Q, qLow x → n = numT x → d = denT x → (Lib.decDigits x.1.natAbs).length ≤ 300 → (denT x).length ≤ 300 → e = 0) := by
    intro x4 x5 hw
    refine ⟨false, [], [], 4, by simp only [exact_read.j0]; rfl, fun h => absurd h (by decide), fun x hlow hnx hdx _ _ => absurd ?_ hw⟩
    obtain ⟨e1, e2⟩ := hx x hnx
    refine ⟨by rw [e1]; exact dec_canon _, by rw [hdx]; exact dec_canon _, ?_, ?_⟩
    · intro e
      rw [hdx] at e
      have : dv (denT x) = dv [48] := by rw [e]
      unfold denT at this
      rw [dv_dec] at this
      have h0 : dv [48] = 0 := rfl
      have := hlow.1
      omega
    · rintro ⟨g1, g2⟩
      rw [e2] at g2
      have hneg := of_decide_eq_true g2
      rw [e1] at g1
      have : dv (Lib.decDigits x.1.natAbs) = dv [48] := by rw [g1]
      rw [dv_dec] at this
      have h0 : dv [48] = 0 := rfl
      omega
  by_cases c1 : Canon s
  · rw [if_pos (hc1.2 c1), hb2, Option.bind_some]
    by_cases c2 : Canon d
    · rw [if_pos (hc2.2 c2), B_list]
      by_cases c3 : d = [48]
      · rw [if_pos c3]
        exact wrong _ _ (fun h => h.2.2.1 c3)
      · rw [if_neg c3, B_list]
        -- the rest, where the form is right
        have right : (¬ (s = [48] ∧ m = true)) → ∃ (m' : Bool) (N D : List Int) (e : Int), exact_read.j0 (k + 2) (B s) m false (B n) (B d) = some (m', N, D, e) ∧
            (e = 0 → ∃ x : Q, qLow x ∧ n = numT x ∧ d = denT x ∧ V N = x.1.natAbs ∧ V D = x.2 ∧ m' = decide (x.1 < 0) ∧ Nrm N ∧ Nrm D ∧ N.length ≤ 300 ∧ D.length ≤ 300 ∧ (Lib.decDigits x.1.natAbs).length ≤ 300 ∧ (denT x).length ≤ 300) ∧
            (∀ x : Q, qLow x → n = numT x → d = denT x → (Lib.decDigits x.1.natAbs).length ≤ 300 → (denT x).length ≤ 300 → e = 0) := by
          intro hz
          simp only [exact_read.j0, Bool.false_eq_true, if_false]
          by_cases hlen : s.length ≤ 300 ∧ d.length ≤ 300
          · rw [if_neg (by rw [B_size]; omega)]
            have hdf : decide (((B d).size : Int) > 300) = false := decide_eq_false (by rw [B_size]; omega)
            rw [hdf]
            simp only [exact_read.j1, Bool.false_eq_true, if_false]
            obtain ⟨N, p1, p2, p3, p4⟩ := parse_f s c1.2.1 (by omega) k (by omega)
            obtain ⟨D, q1, q2, q3, q4⟩ := parse_f d c2.2.1 (by omega) k (by omega)
            obtain ⟨g, g1, g2, g3, _⟩ := common_f (dv d) N D k p3 q3 (by omega) (by omega) (by omega) (by omega)
            rw [p1, Option.bind_some, q1, Option.bind_some, g1, Option.bind_some, one_f g g3, Option.bind_some, g2, p2, q2]
            have hdpos : 0 < dv d := by
              refine dv_pos d c2.1 c2.2.1 (fun e => c3 ?_)
              have := c2.2.2 e
              obtain ⟨y, rfl⟩ := List.length_eq_one_iff.1 this
              simp only [List.head?_cons, Option.some.injEq] at e
              rw [e]
            by_cases hg : Nat.gcd (dv s) (dv d) = 1
            · rw [if_pos (decide_eq_true hg)]
              refine ⟨m, N, D, 0, rfl, fun _ => ?_, fun _ _ _ _ _ _ => rfl⟩
              -- the fraction
              have hmz : m = true → dv s ≠ 0 := by
                intro hm h0
                apply hz
                refine ⟨?_, hm⟩
                rw [← dec_dv s c1, h0, dec_small 0 (by omega)]; rfl
              refine ⟨(if m = true then -((dv s : Nat) : Int) else ((dv s : Nat) : Int), dv d), ?_, ?_, ?_, ?_, q2, ?_, p3, q3, by omega, by omega, ?_, ?_⟩
              · refine ⟨hdpos, ?_⟩
                show Nat.gcd (Int.natAbs (if m = true then -((dv s : Nat) : Int) else ((dv s : Nat) : Int))) (dv d) = 1
                cases m
                · exact hg
                · simp only [if_true, Int.natAbs_neg]; exact hg
              · unfold numT sgL
                cases m with
                | false =>
                  simp only [Bool.false_eq_true, if_false] at hs ⊢
                  rw [if_neg (by omega), List.nil_append, Int.natAbs_natCast, dec_dv s c1, hs]
                | true =>
                  simp only [if_true] at hs ⊢
                  have := hmz rfl
                  rw [if_pos (by omega), Int.natAbs_neg, Int.natAbs_natCast, dec_dv s c1, hs]; rfl
              · unfold denT; rw [dec_dv d c2]
              · rw [p2]
                cases m
                · rfl
                · simp only [if_true, Int.natAbs_neg]; rfl
              · cases m with
                | false => simp only [Bool.false_eq_true, if_false]; exact (decide_eq_false (by omega)).symm
                | true =>
                  have := hmz rfl
                  simp only [if_true]
                  exact (decide_eq_true (by omega)).symm
              · have : Int.natAbs (if m = true then -((dv s : Nat) : Int) else ((dv s : Nat) : Int)) = dv s := by
                  cases m
                  · rfl
                  · simp only [if_true, Int.natAbs_neg]; rfl
                show (Lib.decDigits (Int.natAbs (if m = true then -((dv s : Nat) : Int) else ((dv s : Nat) : Int)))).length ≤ 300
                rw [this, dec_dv s c1]
                exact hlen.1
              · unfold denT; rw [dec_dv d c2]; exact hlen.2
            · rw [if_neg (by simp [hg])]
              refine ⟨false, [], [], 4, rfl, fun h => absurd h (by decide), fun x hlow hnx hdx _ _ => absurd ?_ hg⟩
              obtain ⟨e1, e2⟩ := hx x hnx
              rw [e1, hdx]
              unfold denT
              rw [dv_dec, dv_dec]
              exact hlow.2
          · have : (if ((B s).size : Int) > 300 then exact_read.j1 (k + 1) (B s) m true (B n) (B d) else exact_read.j1 (k + 1) (B s) m (decide (((B d).size : Int) > 300)) (B n) (B d)) = some (false, [], [], 3) := by
              by_cases h1 : s.length ≤ 300
              · rw [if_neg (by rw [B_size]; omega), decide_eq_true (show ((B d).size : Int) > 300 by rw [B_size]; omega)]
                rfl
              · rw [if_pos (by rw [B_size]; omega)]; rfl
            rw [this]
            refine ⟨false, [], [], 3, rfl, fun h => absurd h (by decide), fun x _ hnx hdx l1 l2 => absurd ?_ hlen⟩
            obtain ⟨e1, _⟩ := hx x hnx
            rw [e1, hdx]
            exact ⟨l1, l2⟩
        by_cases c4 : s = [48]
        · rw [if_pos c4]
          cases hm : m with
          | true => exact wrong _ _ (fun h => h.2.2.2 ⟨c4, hm⟩)
          | false =>
            have := right (by rw [hm]; simp)
            rw [hm] at this
            exact this
        · rw [if_neg c4]
          exact right (fun h => c4 h.1)
    · rw [if_neg (fun h => c2 (hc2.1 h))]
      exact wrong _ _ (fun h => c2 h.2.1)
  · rw [if_neg (fun h => c1 (hc1.1 h))]
    exact wrong _ _ (fun h => c1 h.1)
end Go.Proofs.YtckfdhnimmaeiaaGreatDoor.Pure
namespace Go.Proofs.YtckfdhnimmaeiaaGreatDoor.Pure
open Go.RowKit Go.Proofs.YtckfdhnimmaeiaaGreatDoor.Pr Go.Proofs.YtckfdhnimmaeiaaGreatDoorW.PrintWords Go.Proofs.YtckfdhnimmaeiaaGreatDoorW.PrintLast
/-- A number with its sign. -/
def sv (m : Bool) (n : Nat) : Int := if m = true then -(n : Int) else (n : Int)
theorem sv_abs (m : Bool) (n : Nat) : (sv m n).natAbs = n := by cases m <;> simp [sv]
theorem sv_dec (z : Int) : sv (decide (z < 0)) z.natAbs = z := by
  unfold sv
  by_cases h : z < 0
  · rw [if_pos (decide_eq_true h)]; omega
  · rw [if_neg (by simp [h])]; omega
theorem text_f (q : List Int) (h : Nrm q) (hl : q.length ≤ 1000000) (k : Nat) : exact_nat_text.f k q = some (B (Lib.decDigits (V q))) := by
  unfold exact_nat_text.f
  rw [if_pos ⟨hl, List.all_eq_true.2 fun d hd => by have := h.1 d hd; simp [this.1, this.2]⟩, text_V q h]
theorem zero_f (q : List Int) (h : Nrm q) : exact_nat_zero.f q = some (decide (V q = 0)) := by
  unfold exact_nat_zero.f
  rw [Option.some.injEq, Bool.eq_iff_iff, beq_iff_eq, decide_eq_true_eq]
  constructor
  · intro e
    have : q = [] := List.eq_nil_of_length_eq_zero (by omega)
    rw [this]; rfl
  · intro e
    rw [h.zero e]; rfl
theorem can_zero (d : Nat) (h : 0 < d) : can (0, d) = (0, 1) := by
  unfold can canN canD
  show ((0 : Int) / ((Nat.gcd 0 d : Nat) : Int), d / Nat.gcd 0 d) = (0, 1)
  rw [Nat.gcd_zero_left, Nat.div_self h, Int.zero_ediv]
theorem can_sign (z : Int) (d : Nat) (h : 0 < d) (hz : z < 0) : (can (z, d)).1 < 0 := by
  have h1 := (can_back z d).1
  have hg := gcd_pos z d h
  show canN z d < 0
  by_cases h2 : canN z d < 0
  · exact h2
  · exfalso
    have : 0 ≤ canN z d * ((Nat.gcd z.natAbs d : Nat) : Int) := Int.mul_nonneg (Int.not_lt.1 h2) (by omega)
    omega
theorem can_nonneg (z : Int) (d : Nat) (_h : 0 < d) (hz : 0 ≤ z) : 0 ≤ (can (z, d)).1 := Int.ediv_nonneg hz (by omega)
/-- What write makes of a number. -/
theorem write_f (m : Bool) (N D : List Int) (hN : Nrm N) (hD : Nrm D) (hlN : N.length ≤ 600000) (hlD : D.length ≤ 600000) (h0 : 0 < V D)
    (h1 : (Lib.decDigits (can (sv m (V N), V D)).1.natAbs).length ≤ 300) (h2 : (denT (can (sv m (V N), V D))).length ≤ 300) (k : Nat) (hk : V D + 2000000000 ≤ k) :
    exact_number_write.f k m N D = some (B (numT (can (sv m (V N), V D))), B (denT (can (sv m (V N), V D))), 0) := by
  obtain ⟨k, rfl⟩ : ∃ z, k = z + 1 := ⟨k - 1, by omega⟩
  unfold exact_number_write.f
  rw [zero_f N hN, Option.bind_some]
  by_cases hz : V N = 0
  · rw [if_pos (decide_eq_true hz), hz]
    have : sv m 0 = 0 := by cases m <;> rfl
    rw [this, can_zero _ h0]
    have e1 : numT (0, 1) = [48] := by
      unfold numT sgL
      show [] ++ Lib.decDigits 0 = [48]
      rw [dec_small 0 (by omega)]; rfl
    have e2 : denT (0, 1) = [49] := by
      unfold denT
      show Lib.decDigits 1 = [49]
      rw [dec_small 1 (by omega)]; rfl
    rw [e1, e2]
  · rw [if_neg (by simp [hz])]
    obtain ⟨g, g1, g2, g3, g4⟩ := common_f (V D) N D (k + 1) hN hD (by omega) (by omega) (Nat.le_refl _) (by omega)
    have hgp : 0 < V g := by rw [g2]; exact Nat.gcd_pos_of_pos_right _ h0
    have hgn : g ≠ [] := fun e => by rw [e] at hgp; exact absurd hgp (Nat.lt_irrefl 0)
    obtain ⟨q, r, q1, q2, _, q4, _, q6, _⟩ := divide_f N g hN.1 g3 hgn (by omega) g4 (k + 1) (by omega)
    obtain ⟨p, s, p1, p2, _, p4, _, p6, _⟩ := divide_f D g hD.1 g3 hgn (by omega) g4 (k + 1) (by omega)
    rw [g1, Option.bind_some, q1, Option.bind_some, p1, Option.bind_some]
    simp only
    rw [text_f q q4 (by omega), Option.bind_some, text_f p p4 (by omega), Option.bind_some, q2, p2, g2]
    have eN : (can (sv m (V N), V D)).1.natAbs = V N / Nat.gcd (V N) (V D) := by
      show (canN (sv m (V N)) (V D)).natAbs = _
      rw [can_abs, sv_abs]
    have eD : (can (sv m (V N), V D)).2 = V D / Nat.gcd (V N) (V D) := by
      show canD (sv m (V N)) (V D) = _
      unfold canD
      rw [sv_abs]
    unfold denT at h2 ⊢
    rw [← eN, ← eD, if_neg (by rw [B_size]; omega), decide_eq_false (show ¬ ((B (Lib.decDigits (can (sv m (V N), V D)).2)).size : Int) > 300 by rw [B_size]; omega)]
    simp only [exact_number_write.j0, Bool.false_eq_true, if_false]
    unfold numT sgL
    cases m with
    | true =>
      have hneg : (can (sv true (V N), V D)).1 < 0 := can_sign _ _ h0 (by show -((V N : Nat) : Int) < 0; omega)
      rw [if_pos rfl, if_pos (by rw [B_size]; omega), if_pos hneg]
      have : (⟨#[45]⟩ : ByteArray) ++ B (Lib.decDigits (can (sv true (V N), V D)).1.natAbs) = B ([45] ++ Lib.decDigits (can (sv true (V N), V D)).1.natAbs) := B_of (by simp)
      rw [this]
    | false =>
      have hnn : 0 ≤ (can (sv false (V N), V D)).1 := can_nonneg _ _ h0 (by show (0 : Int) ≤ ((V N : Nat) : Int); omega)
      rw [if_neg (by decide), if_neg (by omega), List.nil_append]
end Go.Proofs.YtckfdhnimmaeiaaGreatDoor.Pure
namespace Go.Proofs.YtckfdhnimmaeiaaGreatDoor.Pure
open Go.RowKit Go.Proofs.YtckfdhnimmaeiaaGreatDoor.Pr Go.Proofs.YtckfdhnimmaeiaaGreatDoorW.PrintWords Go.Proofs.YtckfdhnimmaeiaaGreatDoorW.PrintLast
theorem numT_inj {x y : Q} (h : numT x = numT y) : x.1 = y.1 := by
  unfold numT sgL at h
  have hx := dec_no45 x.1.natAbs
  have hy := dec_no45 y.1.natAbs
  by_cases h1 : x.1 < 0
  · by_cases h2 : y.1 < 0
    · rw [if_pos h1, if_pos h2] at h
      simp only [List.cons_append, List.nil_append, List.cons.injEq, true_and] at h
      have := dec_inj h
      omega
    · rw [if_pos h1, if_neg h2, List.nil_append] at h
      rw [← h] at hy
      exact absurd rfl hy
  · by_cases h2 : y.1 < 0
    · rw [if_neg h1, if_pos h2, List.nil_append] at h
      rw [h] at hx
      exact absurd rfl hx
    · rw [if_neg h1, if_neg h2, List.nil_append, List.nil_append] at h
      have := dec_inj h
      omega
theorem denT_inj {x y : Q} (h : denT x = denT y) : x.2 = y.2 := dec_inj h
/-- The texts as the program has them. -/
def nt (x : Q) : ByteArray := B (numT x)
def dt (x : Q) : ByteArray := B (denT x)
/-- Few digits. -/
def Fit (x : Q) : Prop := (Lib.decDigits x.1.natAbs).length ≤ 300 ∧ (denT x).length ≤ 300
/-! ### reading what was written -/
theorem numT_len (x : Q) (h : Fit x) : (numT x).length ≤ 301 := by
  unfold numT sgL
  rw [List.length_append]
  have := h.1
  split <;> simp <;> omega
/-- What read makes of a fraction. -/
structure Rd (x : Q) (m : Bool) (N D : List Int) : Prop where
  n : V N = x.1.natAbs
  d : V D = x.2
  m : m = decide (x.1 < 0)
  hN : Nrm N
  hD : Nrm D
  lN : N.length ≤ 300
  lD : D.length ≤ 300
theorem read_num (x : Q) (hx : qLow x) (hf : Fit x) : ∃ K, ∀ k, K ≤ k → ∃ (m : Bool) (N D : List Int), exact_read.f k (nt x) (dt x) = some (m, N, D, 0) ∧ Rd x m N D := by
  obtain ⟨K, hK⟩ := read_all (numT x) (denT x) (by have := numT_len x hf; omega) (by have := hf.2; omega)
  refine ⟨K, fun k hk => ?_⟩
  obtain ⟨m, N, D, e, h1, h2, h3⟩ := hK k hk
  have he := h3 x hx rfl rfl hf.1 hf.2
  obtain ⟨y, y1, y2, y3, y4, y5, y6, y7, y8, y9, y10, _⟩ := h2 he
  have e1 := numT_inj y2
  have e2 := denT_inj y3
  refine ⟨m, N, D, by rw [← he]; exact h1, ?_⟩
  rw [← e1] at y4 y6
  rw [← e2] at y5
  exact ⟨y4, y5, y6, y7, y8, y9, y10⟩
end Go.Proofs.YtckfdhnimmaeiaaGreatDoor.Pure
