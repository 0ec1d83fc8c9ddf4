/- The codes of lengths, in plain Lean: what squash.codes computes. Canonical codes, in plain Lean: a code fits its length, and no prefix of it is a code. -/
namespace Go.Proofs.YtefhcgnamfnkbaaDoor.Sb
/-- How many of the first e symbols have length m. -/
def cntL (ln : Nat → Nat) (m : Nat) : Nat → Nat
  | 0 => 0
  | e + 1 => cntL ln m e + (if ln e = m then 1 else 0)
theorem cntL_le (ln : Nat → Nat) (m : Nat) : ∀ e, cntL ln m e ≤ e
  | 0 => Nat.le_refl _
  | e + 1 => by
    have := cntL_le ln m e
    unfold cntL
    split <;> omega
theorem cntL_yes {ln : Nat → Nat} {m e : Nat} (h : ln e = m) : cntL ln m (e + 1) = cntL ln m e + 1 := by
  show cntL ln m e + (if ln e = m then 1 else 0) = _
  rw [if_pos h]
theorem cntL_no {ln : Nat → Nat} {m e : Nat} (h : ¬ ln e = m) : cntL ln m (e + 1) = cntL ln m e := by
  show cntL ln m e + (if ln e = m then 1 else 0) = _
  rw [if_neg h]; rfl
/-- The symbols of a length (of length 0 none). -/
def ofLen (ln : Nat → Nat) (n : Nat) : Nat := if n = 0 then 0 else cntL ln n 272
/-- The first code of a length. -/
def fstC (ln : Nat → Nat) : Nat → Nat
  | 0 => 0
  | n + 1 => 2 * (fstC ln n + ofLen ln n)
theorem ofLen_le (ln : Nat → Nat) (n : Nat) : ofLen ln n ≤ 272 := by
  unfold ofLen
  split
  · omega
  · exact cntL_le _ _ _
theorem fstC_le (ln : Nat → Nat) : ∀ n, fstC ln n + 544 ≤ 544 * 2 ^ n
  | 0 => by simp [fstC]
  | n + 1 => by
    have h1 := fstC_le ln n
    have h2 := ofLen_le ln n
    have h3 : 544 * 2 ^ (n + 1) = 2 * (544 * 2 ^ n) := by rw [Nat.pow_succ]; omega
    show 2 * (fstC ln n + ofLen ln n) + 544 ≤ _
    omega
theorem fstC_small (ln : Nat → Nat) {n : Nat} (h : n ≤ 16) : fstC ln n ≤ 40000000 := by
  have h1 := fstC_le ln n
  have h2 : 2 ^ n ≤ 2 ^ 16 := Nat.pow_le_pow_right (by omega) h
  have h3 : 544 * 2 ^ n ≤ 544 * 2 ^ 16 := Nat.mul_le_mul_left _ h2
  have h4 : 544 * 2 ^ 16 ≤ 40000000 := by decide
  omega
/-- The code of a symbol. -/
def codeOf (ln : Nat → Nat) (s : Nat) : Nat := if 1 ≤ ln s ∧ ln s ≤ 15 then fstC ln (ln s) + cntL ln (ln s) s else 0
/-- The sum of the codes' shares up to length m. -/
def sumTo (ln : Nat → Nat) : Nat → Nat
  | 0 => 0
  | n + 1 => sumTo ln n + ofLen ln (n + 1) * 2 ^ (15 - (n + 1))
theorem sumTo_le (ln : Nat → Nat) : ∀ n, sumTo ln n ≤ n * (272 * 32768)
  | 0 => Nat.zero_le _
  | n + 1 => by
    have h1 := sumTo_le ln n
    have h2 : 2 ^ (15 - (n + 1)) ≤ 2 ^ 15 := Nat.pow_le_pow_right (by omega) (by omega)
    have h3 : ofLen ln (n + 1) * 2 ^ (15 - (n + 1)) ≤ 272 * 32768 := Nat.mul_le_mul (ofLen_le _ _) h2
    show sumTo ln n + _ ≤ _
    omega
end Go.Proofs.YtefhcgnamfnkbaaDoor.Sb
namespace Go.Proofs.YtefhcgnamfnkbaaDoor.Sb
theorem fstC_shift (ln : Nat → Nat) (n : Nat) : ∀ d, (fstC ln n + ofLen ln n) * 2 ^ (d + 1) ≤ fstC ln (n + (d + 1))
  | 0 => by
    show _ ≤ 2 * (fstC ln n + ofLen ln n)
    rw [Nat.zero_add, Nat.pow_one, Nat.mul_comm]
    exact Nat.le_refl _
  | d + 1 => by
    have ih := fstC_shift ln n d
    show _ ≤ 2 * (fstC ln (n + (d + 1)) + ofLen ln (n + (d + 1)))
    rw [Nat.pow_succ, ← Nat.mul_assoc]
    omega
/-- A prefix of a code lies behind the codes of its length. -/
theorem prefix_behind {ln : Nat → Nat} {m n x : Nat} (h : n < m) (hx : fstC ln m ≤ x) : fstC ln n + ofLen ln n ≤ x / 2 ^ (m - n) := by
  obtain ⟨d, rfl⟩ : ∃ d, m = n + (d + 1) := ⟨m - n - 1, by omega⟩
  have h1 := fstC_shift ln n d
  rw [show n + (d + 1) - n = d + 1 from by omega]
  exact (Nat.le_div_iff_mul_le (Nat.two_pow_pos _)).2 (Nat.le_trans h1 hx)
theorem sum_fst (ln : Nat → Nat) : ∀ m, m ≤ 15 → (fstC ln m + ofLen ln m) * 2 ^ (15 - m) = sumTo ln m
  | 0, _ => by simp [fstC, ofLen, sumTo]
  | m + 1, h => by
    have ih := sum_fst ln m (by omega)
    have e : 2 ^ (15 - m) = 2 * 2 ^ (15 - (m + 1)) := by
      rw [show 15 - m = (15 - (m + 1)) + 1 from by omega, Nat.pow_succ, Nat.mul_comm]
    show (2 * (fstC ln m + ofLen ln m) + ofLen ln (m + 1)) * 2 ^ (15 - (m + 1)) = sumTo ln m + ofLen ln (m + 1) * 2 ^ (15 - (m + 1))
    rw [Nat.add_mul, ← ih, e, Nat.mul_comm 2 (fstC ln m + ofLen ln m), Nat.mul_assoc]
theorem sumTo_mono (ln : Nat → Nat) : ∀ d m, sumTo ln m ≤ sumTo ln (m + d)
  | 0, _ => Nat.le_refl _
  | d + 1, m => Nat.le_trans (sumTo_mono ln d m) (Nat.le_add_right _ _)
/-- A code has no more bits than its length. -/
theorem code_fits {ln : Nat → Nat} (h : sumTo ln 15 ≤ 32768) {m : Nat} (hm : m ≤ 15) : fstC ln m + ofLen ln m ≤ 2 ^ m := by
  have h1 := sum_fst ln m hm
  have h2 := sumTo_mono ln (15 - m) m
  rw [show m + (15 - m) = 15 from by omega] at h2
  refine Nat.le_of_mul_le_mul_right (c := 2 ^ (15 - m)) ?_ (Nat.two_pow_pos _)
  rw [h1, ← Nat.pow_add, show m + (15 - m) = 15 from by omega]
  exact Nat.le_trans h2 h
end Go.Proofs.YtefhcgnamfnkbaaDoor.Sb
