/- Natural numbers in the base 10^9: text; decimal numerals. -/
import Derived.Test.YtefhcgnamfnkbaaGreatDoorZNat6
import Derived.Lib.ItoaNum
namespace Go.Proofs.YtefhcgnamfnkbaaGreatDoor.Pure
open Go.RowKit Go.Proofs.YtefhcgnamfnkbaaGreatDoor.Pr Go.Proofs.YtefhcgnamfnkbaaGreatDoorW.PrintWords Go.Proofs.YtefhcgnamfnkbaaGreatDoorW.PrintLast

/-! ### Numerals -/
theorem dec_small (u : Nat) (h : u < 10) : Lib.decDigits u = [UInt8.ofNat (48 + u)] := by rw [Lib.decDigits, dif_pos h]
theorem dec_big (u : Nat) (h : ¬ u < 10) : Lib.decDigits u = Lib.decDigits (u / 10) ++ [UInt8.ofNat (48 + u % 10)] := by rw [Lib.decDigits, dif_neg h]
theorem ten_digit (r : Nat) (h : r < 10) : isD (UInt8.ofNat (48 + r)) = true ∧ (UInt8.ofNat (48 + r)).toNat - 48 = r ∧ (r ≠ 0 → UInt8.ofNat (48 + r) ≠ 48) := by
  have : ∀ r : Fin 10, isD (UInt8.ofNat (48 + r.val)) = true ∧ (UInt8.ofNat (48 + r.val)).toNat - 48 = r.val ∧ (r.val ≠ 0 → UInt8.ofNat (48 + r.val) ≠ 48) := by decide +kernel
  exact this ⟨r, h⟩
theorem digit_ten (c : UInt8) (h : isD c = true) : UInt8.ofNat (48 + (c.toNat - 48)) = c := by
  have : ∀ n : Fin 256, isD (UInt8.ofNat n.val) = true → UInt8.ofNat (48 + ((UInt8.ofNat n.val).toNat - 48)) = UInt8.ofNat n.val := by decide +kernel
  have e := this ⟨c.toNat, UInt8.toNat_lt c⟩
  simp only [UInt8.ofNat_toNat] at e
  exact e h
theorem dv_snoc (l : List UInt8) (c : UInt8) : dv (l ++ [c]) = dv l * 10 + (c.toNat - 48) := by
  rw [dv_app, dv_cons]
  show dv l * 10 ^ 1 + ((c.toNat - 48) * 10 ^ 0 + 0) = _
  rw [Nat.pow_one, Nat.pow_zero, Nat.mul_one, Nat.add_zero]
theorem dv_dec (u : Nat) : dv (Lib.decDigits u) = u := by
  induction u using Nat.strongRecOn with
  | _ u ih =>
    by_cases h : u < 10
    · rw [dec_small u h, dv_cons, (ten_digit u h).2.1]
      show u * 1 + 0 = u
      omega
    · rw [dec_big u h, dv_snoc, ih _ (by omega), (ten_digit _ (by omega)).2.1]
      omega
theorem dec_Dec (u : Nat) : Dec (Lib.decDigits u) := by
  induction u using Nat.strongRecOn with
  | _ u ih =>
    intro c hc
    by_cases h : u < 10
    · rw [dec_small u h] at hc
      obtain rfl := List.mem_singleton.1 hc
      exact (ten_digit u h).1
    · rw [dec_big u h, List.mem_append] at hc
      rcases hc with hc | hc
      · exact ih _ (by omega) c hc
      · obtain rfl := List.mem_singleton.1 hc
        exact (ten_digit _ (by omega)).1
theorem dec_ne (u : Nat) : Lib.decDigits u ≠ [] := by
  by_cases h : u < 10
  · rw [dec_small u h]; simp
  · rw [dec_big u h]; simp
theorem dec_inj {u v : Nat} (h : Lib.decDigits u = Lib.decDigits v) : u = v := by rw [← dv_dec u, h, dv_dec]
theorem dec_head (u : Nat) (h1 : 1 ≤ u) : ∃ c r, Lib.decDigits u = c :: r ∧ c ≠ 48 := by
  induction u using Nat.strongRecOn with
  | _ u ih =>
    by_cases h : u < 10
    · exact ⟨_, [], dec_small u h, (ten_digit u h).2.2 (by omega)⟩
    · obtain ⟨c, r, e, hc⟩ := ih (u / 10) (by omega) (by omega)
      exact ⟨c, r ++ [UInt8.ofNat (48 + u % 10)], by rw [dec_big u h, e]; rfl, hc⟩
/-- A numeral without a wrong zero. -/
def Canon (l : List UInt8) : Prop := l ≠ [] ∧ Dec l ∧ (l.head? = some 48 → l.length = 1)
theorem dec_canon (u : Nat) : Canon (Lib.decDigits u) := by
  refine ⟨dec_ne u, dec_Dec u, fun h => ?_⟩
  rcases Nat.eq_zero_or_pos u with h0 | h0
  · subst h0; rw [dec_small 0 (by omega)]; rfl
  · obtain ⟨c, r, e, hc⟩ := dec_head u h0
    rw [e] at h
    exact absurd (Option.some.inj h) hc
theorem dv_pos (l : List UInt8) (h0 : l ≠ []) (hd : Dec l) (h : l.head? ≠ some 48) : 1 ≤ dv l := by
  cases l with
  | nil => exact absurd rfl h0
  | cons c r =>
    have hc := (isD_bounds c).1 (hd c List.mem_cons_self)
    have hne : c.toNat ≠ 48 := fun e => h (by
      have : c = 48 := UInt8.toNat_inj.1 e
      rw [this]; rfl)
    rw [dv_cons]
    have : 1 * 10 ^ r.length ≤ (c.toNat - 48) * 10 ^ r.length := Nat.mul_le_mul_right _ (by omega)
    have h2 : 0 < 10 ^ r.length := Nat.pow_pos (by decide)
    generalize 10 ^ r.length = P at this h2 ⊢
    omega
theorem dec_dv (l : List UInt8) (h : Canon l) : Lib.decDigits (dv l) = l := by
  have : ∀ n, ∀ l : List UInt8, l.length = n → Canon l → Lib.decDigits (dv l) = l := by
    intro n
    induction n with
    | zero => intro l hl h; exact absurd (List.eq_nil_of_length_eq_zero hl) h.1
    | succ n ih =>
      intro l hl h
      rcases List.eq_nil_or_concat l with rfl | ⟨r, c, rfl⟩
      · cases hl
      · rw [List.concat_eq_append] at hl h ⊢
        have hc := h.2.1 c (by simp)
        have hcb := (isD_bounds c).1 hc
        rw [dv_snoc]
        by_cases hr : r = []
        · subst hr
          show Lib.decDigits (0 * 10 + (c.toNat - 48)) = [c]
          rw [Nat.zero_mul, Nat.zero_add, dec_small _ (by omega), digit_ten c hc]
        · have hrd : Dec r := fun d hd => h.2.1 d (List.mem_append_left _ hd)
          have hhead : r.head? ≠ some 48 := by
            intro e
            have := h.2.2 (by rw [List.head?_append, e]; rfl)
            rw [List.length_append, List.length_singleton] at this
            have := List.length_pos_iff.2 hr
            omega
          have hpos := dv_pos r hr hrd hhead
          have hrc : Canon r := ⟨hr, hrd, fun e => absurd e hhead⟩
          have := ih r (by rw [List.length_append, List.length_singleton] at hl; omega) hrc
          rw [dec_big _ (by omega), show (dv r * 10 + (c.toNat - 48)) / 10 = dv r by omega, show (dv r * 10 + (c.toNat - 48)) % 10 = c.toNat - 48 by omega, this, digit_ten c hc]
  exact this l.length l rfl h
theorem dec_len_le (k : Nat) : ∀ u, u < 10 ^ (k + 1) → (Lib.decDigits u).length ≤ k + 1 := by
  induction k with
  | zero => intro u h; rw [dec_small u (by rw [Nat.zero_add, Nat.pow_one] at h; exact h)]; exact Nat.le_refl _
  | succ k ih =>
    intro u h
    by_cases h1 : u < 10
    · rw [dec_small u h1]; simp
    · rw [dec_big u h1, List.length_append]
      rw [Nat.pow_succ] at h
      have := ih (u / 10) (Nat.div_lt_of_lt_mul (by rw [Nat.mul_comm]; exact h))
      simp only [List.length_cons, List.length_nil]
      omega
theorem dec_lt (u : Nat) : u < 10 ^ (Lib.decDigits u).length := by
  have := dv_lt _ (dec_Dec u)
  rw [dv_dec] at this
  exact this

/-! ### text -/
/-- The last j digits. -/
def pad : Nat → Nat → List UInt8
  | 0, _ => []
  | j + 1, d => pad j (d / 10) ++ [UInt8.ofNat (48 + d % 10)]
theorem pad_zero (j : Nat) : pad j 0 = List.replicate j 48 := by
  induction j with
  | zero => rfl
  | succ j ih =>
    rw [pad, show 0 / 10 = 0 from rfl, ih, List.replicate_succ']
    rfl
/-- As the program writes it: zeros, then the numeral. -/
theorem pad_eq (j : Nat) : ∀ d, d < 10 ^ (j + 1) → pad (j + 1) d = List.replicate (j + 1 - (Lib.decDigits d).length) 48 ++ Lib.decDigits d := by
  induction j with
  | zero =>
    intro d h
    rw [Nat.zero_add, Nat.pow_one] at h
    rw [dec_small d h]
    show [] ++ [UInt8.ofNat (48 + d % 10)] = _
    rw [Nat.mod_eq_of_lt h]; rfl
  | succ j ih =>
    intro d h
    rw [pad]
    by_cases h1 : d < 10
    · rw [show d / 10 = 0 by omega, pad_zero, dec_small d h1, Nat.mod_eq_of_lt h1]
      rfl
    · rw [Nat.pow_succ] at h
      have hd : d / 10 < 10 ^ (j + 1) := Nat.div_lt_of_lt_mul (by rw [Nat.mul_comm]; exact h)
      rw [ih (d / 10) hd, dec_big d h1, List.length_append, List.length_singleton, List.append_assoc, show j + 1 + 1 - ((Lib.decDigits (d / 10)).length + 1) = j + 1 - (Lib.decDigits (d / 10)).length by omega]
theorem dec_pad (j : Nat) : ∀ a d, 1 ≤ a → d < 10 ^ j → Lib.decDigits (a * 10 ^ j + d) = Lib.decDigits a ++ pad j d := by
  induction j with
  | zero =>
    intro a d _ h
    rw [Nat.pow_zero] at h
    rw [Nat.pow_zero, Nat.mul_one, show d = 0 by omega, Nat.add_zero, pad, List.append_nil]
  | succ j ih =>
    intro a d ha h
    rw [Nat.pow_succ] at h ⊢
    have hd : d / 10 < 10 ^ j := Nat.div_lt_of_lt_mul (by rw [Nat.mul_comm]; exact h)
    have hp : 1 ≤ 10 ^ j := Nat.pow_pos (by decide)
    have hi := ih a (d / 10) ha hd
    have hap : 1 ≤ a * 10 ^ j := Nat.mul_le_mul ha hp
    rw [← Nat.mul_assoc]
    generalize a * 10 ^ j = X at hap hi ⊢
    rw [dec_big _ (by omega), show (X * 10 + d) / 10 = X + d / 10 by omega, show (X * 10 + d) % 10 = d % 10 by omega, hi, pad, List.append_assoc]
theorem text_V : ∀ l : List Int, Nrm l → textI l = Lib.decDigits (V l)
  | [], _ => by rw [textI, V, dec_small 0 (by omega)]; rfl
  | [d], _ => by rw [textI, V, V, Nat.mul_zero, Nat.add_zero]
  | d :: e :: r, h => by
    have ih := text_V (e :: r) h.tail
    have hd := h.1.head
    have hpos : 1 ≤ V (e :: r) := by
      rcases Nat.eq_zero_or_pos (V (e :: r)) with h0 | h0
      · exact absurd (h.tail.zero h0) (by simp)
      · exact h0
    have hlt : d.toNat < 10 ^ 9 := by
      show d.toNat < 1000000000
      omega
    rw [textI, ih, ← pad_eq 8 d.toNat hlt]
    show Lib.decDigits (V (e :: r)) ++ pad 9 d.toNat = Lib.decDigits (d.toNat + Bs * V (e :: r))
    rw [← dec_pad 9 _ _ hpos hlt]
    congr 1
    show _ * Bs + _ = _
    rw [Nat.mul_comm, Nat.add_comm]
end Go.Proofs.YtefhcgnamfnkbaaGreatDoor.Pure
