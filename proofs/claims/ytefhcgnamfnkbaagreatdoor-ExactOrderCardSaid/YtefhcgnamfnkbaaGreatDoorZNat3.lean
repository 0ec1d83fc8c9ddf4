/- Natural numbers in the base 10^9: times. -/
import Derived.Test.YtefhcgnamfnkbaaGreatDoorZNat2
namespace Go.Proofs.YtefhcgnamfnkbaaGreatDoor.Pure
open Go.RowKit Go.Proofs.YtefhcgnamfnkbaaGreatDoor.Pr Go.Proofs.YtefhcgnamfnkbaaGreatDoorW.PrintWords Go.Proofs.YtefhcgnamfnkbaaGreatDoorW.PrintLast

theorem u64_nat (n : Nat) (h : n < 18446744073709551616) : IntKind.u64.wrap (n : Int) = (n : Int) := by
  show (n : Int) % 18446744073709551616 = _
  omega
theorem mul_le (x y : Nat) (hx : x < 1000000000) (hy : y < 1000000000) : x * y ≤ 999999998000000001 := by
  have := Nat.mul_le_mul (Nat.le_of_lt_succ hx) (Nat.le_of_lt_succ hy)
  exact this
/-- One product of digits. -/
theorem mul_digit (x y o c : Nat) (hx : x < 1000000000) (hy : y < 1000000000) (ho : o < 1000000000) (hc : c < 1000000000) :
    ∃ n m q : Nat, IntKind.u64.wrap (IntKind.u64.wrap (IntKind.u64.wrap (IntKind.u64.wrap (x : Int) * IntKind.u64.wrap (y : Int)) + IntKind.u64.wrap (o : Int)) + (c : Int)) = (n : Int) ∧
      Int.tmod (n : Int) 1000000000 % 4294967296 = (m : Int) ∧ IntKind.u64.wrap (Int.tdiv (n : Int) 1000000000) = (q : Int) ∧ x * y + o + c = m + Bs * q ∧ m < 1000000000 ∧ q < 1000000000 := by
  have hp := mul_le x y hx hy
  obtain ⟨p, hpe⟩ : ∃ p, p = x * y := ⟨_, rfl⟩
  have e0 : (x : Int) * (y : Int) = (p : Int) := by rw [hpe]; exact (Int.natCast_mul x y).symm
  rw [← hpe] at hp ⊢
  rw [u64_nat x (by omega), u64_nat y (by omega), e0, u64_nat p (by omega), u64_nat o (by omega)]
  have e1 : (p : Int) + (o : Int) = ((p + o : Nat) : Int) := by omega
  rw [e1, u64_nat (p + o) (by omega)]
  have e2 : ((p + o : Nat) : Int) + (c : Int) = ((p + o + c : Nat) : Int) := by omega
  rw [e2, u64_nat (p + o + c) (by omega)]
  refine ⟨p + o + c, (p + o + c) % 1000000000, (p + o + c) / 1000000000, rfl, ?_, ?_, by rw [Bs_eq]; omega, by omega, by omega⟩
  · rw [Int.tmod_eq_emod_of_nonneg (by omega)]
    omega
  · rw [Int.tdiv_eq_ediv_of_nonneg (by omega)]
    have : ((p + o + c : Nat) : Int) / 1000000000 = (((p + o + c) / 1000000000 : Nat) : Int) := by omega
    rw [this, u64_nat _ (by omega)]
theorem times_sum (P VO VO1 o c x y T m q : Nat) (h1 : VO1 + P * o = VO + P * m) (h2 : x * y + o + c = m + Bs * q) : VO1 + P * Bs * (q + x * T) = VO + P * (c + x * (y + Bs * T)) := by
  have e1 := congrArg (fun z => P * z) h2
  simp only [Nat.mul_add] at e1
  have e2 : P * Bs * (q + x * T) = P * (Bs * q) + P * (x * (Bs * T)) := by
    rw [Nat.mul_add, Nat.mul_assoc, Nat.mul_assoc, Nat.mul_left_comm Bs x T]
  have e3 : P * (c + x * (y + Bs * T)) = P * c + (P * (x * y) + P * (x * (Bs * T))) := by rw [Nat.mul_add, Nat.mul_add, Nat.mul_add]
  rw [e2, e3]
  omega
theorem dg_set (l : List Int) (i t : Nat) (d : Int) (h : t ≠ i) : dg (l.set i d) t = dg l t := by
  unfold dg
  rw [List.getD_eq_getElem?_getD, List.getD_eq_getElem?_getD, List.getElem?_set_ne (fun e => h e.symm)]
theorem wr_a (i j : Nat) (h : i + j ≤ 8000000) : wrap64 ((i : Int) + (j : Int)) = ((i + j : Nat) : Int) := by unfold wrap64; omega
theorem mod32 (c : Nat) (h : c < 1000000000) : ((c : Int)) % 4294967296 = (c : Int) := by omega
theorem times_l1 (a b : List Int) (hb : Dig b) (hla : a.length ≤ 1000000) (hlb : b.length ≤ 1000000) (i x : Nat) (hi : i < a.length) (hx : x < 1000000000) (d : Nat) : ∀ (k j c : Nat) (out : List Int),
    j + d = b.length → out.length = a.length + b.length → Dig out → c < 1000000000 → dg out (i + b.length) = 0 →
    ∃ o : List Int, exact_nat_times.l1 (d + 1 + k) b out (i : Int) (x : Int) (c : Int) a (a.length : Int) (i : Int) b (b.length : Int) (j : Int) = exact_nat_times.l0 k b o a (a.length : Int) ((i + 1 : Nat) : Int) ∧
      Dig o ∧ o.length = out.length ∧ V o = V out + Bs ^ (i + j) * (c + x * V (b.drop j)) ∧ ∀ t, i + b.length < t → dg o t = dg out t := by
  induction d with
  | zero =>
    intro k j c out hj hol hdo hc hz
    obtain rfl : j = b.length := by omega
    have hlt : i + b.length < out.length := by omega
    rw [show 0 + 1 + k = k + 1 by omega]
    simp only [exact_nat_times.l1]
    rw [if_neg (by omega), wr_a i b.length (by omega), if_pos (by omega), if_pos (by omega), Int.toNat_natCast, wr_1 i (by omega), mod32 c hc]
    refine ⟨out.set (i + b.length) (c : Int), rfl, hdo.set _ _ (by omega), by simp, ?_, fun t ht => dg_set _ _ _ _ (by omega)⟩
    have := V_set out (i + b.length) (c : Int) hlt
    rw [hz, Int.toNat_natCast] at this
    rw [List.drop_length]
    simp only [V, Nat.mul_zero, Nat.add_zero] at this ⊢
    exact this
  | succ d ih =>
    intro k j c out hj hol hdo hc hz
    have hjb : j < b.length := by omega
    have hlt : i + j < out.length := by omega
    have hy : rd b (j : Int) = (dg b j : Int) := by
      have := dg_rd hb j
      rw [if_pos (by omega)] at this
      exact this
    have hoo : rd out ((i + j : Nat) : Int) = (dg out (i + j) : Int) := by
      have := dg_rd hdo (i + j)
      rw [if_pos (by omega)] at this
      exact this
    obtain ⟨n, m, q, e1, e2, e3, e4, e5, e6⟩ := mul_digit x (dg b j) (dg out (i + j)) c hx (dg_lt hb j) (dg_lt hdo _) hc
    have hset := V_set out (i + j) (m : Int) hlt
    rw [Int.toNat_natCast] at hset
    rw [show d + 1 + 1 + k = (d + 1 + k) + 1 by omega]
    simp only [exact_nat_times.l1]
    rw [if_pos (by omega), if_pos (by omega), if_pos (by omega), wr_a i j (by omega), if_pos (by omega), if_pos (by omega), Int.toNat_natCast, hy, hoo, e1, e2, e3, wr_1 j (by omega)]
    obtain ⟨o, h1, h2, h3, h4, h5⟩ := ih k (j + 1) q (out.set (i + j) (m : Int)) (by omega) (by simpa using hol) (hdo.set _ _ (by omega)) e6 (by rw [dg_set _ _ _ _ (by omega)]; exact hz)
    refine ⟨o, h1, h2, by simpa using h3, ?_, fun t ht => by rw [h5 t ht, dg_set _ _ _ _ (by omega)]⟩
    rw [h4, V_drop b j, show i + (j + 1) = (i + j) + 1 by omega, Nat.pow_succ]
    exact times_sum _ _ _ _ c x _ _ m q hset e4
theorem times_l0 (a b : List Int) (ha : Dig a) (hb : Dig b) (hla : a.length ≤ 1000000) (hlb : b.length ≤ 1000000) (d : Nat) : ∀ (k i : Nat) (out : List Int),
    i + d = a.length → d * (b.length + 2) + a.length + b.length + 5 ≤ k → out.length = a.length + b.length → Dig out → V out = V (a.take i) * V b → (∀ t, i + b.length ≤ t → dg out t = 0) →
    ∃ o, exact_nat_times.l0 k b out a (a.length : Int) (i : Int) = some (trimL o) ∧ Dig o ∧ o.length = a.length + b.length ∧ V o = V a * V b := by
  induction d with
  | zero =>
    intro k i out hi hk hol hdo hv _
    obtain ⟨k, rfl⟩ : ∃ q, k = q + 1 := ⟨k - 1, by omega⟩
    obtain rfl : i = a.length := by omega
    simp only [exact_nat_times.l0]
    rw [if_neg (by omega), trim_f out k (by omega) (by omega)]
    refine ⟨out, rfl, hdo, hol, ?_⟩
    rw [hv, List.take_length]
  | succ d ih =>
    intro k i out hi hk hol hdo hv hz
    have hia : i < a.length := by omega
    have hx : rd a (i : Int) = (dg a i : Int) := by
      have := dg_rd ha i
      rw [if_pos (by omega)] at this
      exact this
    rw [Nat.succ_mul] at hk
    obtain ⟨K, hK⟩ : ∃ K, k = (b.length + 1 + K) + 1 := ⟨k - (b.length + 2), by omega⟩
    rw [hK]
    obtain ⟨o, h1, h2, h3, h4, h5⟩ := times_l1 a b hb hla hlb i (dg a i) hia (dg_lt ha i) b.length K 0 0 out (by omega) hol hdo (by omega) (hz _ (Nat.le_refl _))
    simp only [exact_nat_times.l0]
    rw [if_pos (by omega), if_pos (by omega), if_pos (by omega), hx]
    rw [show ((0 : Nat) : Int) = 0 from rfl] at h1
    rw [h1]
    refine ih K (i + 1) o (by omega) (by omega) (by rw [h3, hol]) h2 ?_ ?_
    · rw [h4, hv, V_takeS, List.drop_zero, Nat.add_zero, Nat.zero_add, Nat.add_mul, Nat.mul_assoc]
    · intro t ht
      rw [h5 t (by omega), hz t (by omega)]
theorem times_f (a b : List Int) (ha : Dig a) (hb : Dig b) (hla : a.length ≤ 1000000) (hlb : b.length ≤ 1000000) (k : Nat) (hk : a.length * (b.length + 2) + a.length + b.length + 5 ≤ k) :
    ∃ r, exact_nat_times.f k a b = some r ∧ V r = V a * V b ∧ Nrm r ∧ r.length ≤ a.length + b.length := by
  unfold exact_nat_times.f
  rw [wr_a a.length b.length (by omega), if_pos (by omega), Int.toNat_natCast, if_pos (by omega)]
  obtain ⟨o, h1, h2, h3, h4⟩ := times_l0 a b ha hb hla hlb a.length k 0 (List.replicate (a.length + b.length) 0) (by omega) hk (by simp) (fun x hx => by rw [(List.mem_replicate.1 hx).2]; decide) (by rw [V_zeros]; simp [V])
    (fun t _ => by
      rcases Nat.lt_or_ge t (a.length + b.length) with h | h
      · rw [dg_at _ _ (by simpa using h)]; simp
      · exact dg_end _ _ (by simpa using h))
  refine ⟨trimL o, h1, by rw [trim_V, h4], trim_nrm h2, by have := trim_len o; omega⟩
end Go.Proofs.YtefhcgnamfnkbaaGreatDoor.Pure
