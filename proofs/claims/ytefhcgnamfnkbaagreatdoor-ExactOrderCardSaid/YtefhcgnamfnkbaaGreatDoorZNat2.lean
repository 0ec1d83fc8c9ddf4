/- Natural numbers in the base 10^9: plus, minus, times. -/
import Derived.Test.YtefhcgnamfnkbaaGreatDoorZNat1
namespace Go.Proofs.YtefhcgnamfnkbaaGreatDoor.Pure
open Go.RowKit Go.Proofs.YtefhcgnamfnkbaaGreatDoor.Pr Go.Proofs.YtefhcgnamfnkbaaGreatDoorW.PrintWords Go.Proofs.YtefhcgnamfnkbaaGreatDoorW.PrintLast

/-- The digit at a place; 0 behind the end. -/
def dg (l : List Int) (i : Nat) : Nat := (l.getD i 0).toNat
theorem dg_at (l : List Int) (i : Nat) (h : i < l.length) : dg l i = (l[i]).toNat := by
  unfold dg; rw [List.getD_eq_getElem?_getD, List.getElem?_eq_getElem h]; rfl
theorem dg_end (l : List Int) (i : Nat) (h : l.length ≤ i) : dg l i = 0 := by
  unfold dg; rw [List.getD_eq_getElem?_getD, List.getElem?_eq_none h]; rfl
theorem dg_lt {l : List Int} (h : Dig l) (i : Nat) : dg l i < 1000000000 := by
  rcases Nat.lt_or_ge i l.length with h1 | h1
  · rw [dg_at l i h1]
    have := h l[i] (List.getElem_mem h1)
    omega
  · rw [dg_end l i h1]; decide
theorem dg_rd {l : List Int} (hd : Dig l) (i : Nat) : (if (i : Int) < (l.length : Int) then rd l (i : Int) else 0) = (dg l i : Int) := by
  rcases Nat.lt_or_ge i l.length with h | h
  · rw [if_pos (by omega), rd_nat l i h, dg_at l i h]
    have := hd l[i] (List.getElem_mem h)
    omega
  · rw [if_neg (by omega), dg_end l i h]; rfl
theorem V_drop (l : List Int) (i : Nat) : V (l.drop i) = dg l i + Bs * V (l.drop (i + 1)) := by
  rcases Nat.lt_or_ge i l.length with h | h
  · rw [List.drop_eq_getElem_cons h, V, dg_at l i h]
  · rw [List.drop_of_length_le h, List.drop_of_length_le (by omega), dg_end l i h]; rfl
theorem V_takeS (l : List Int) (i : Nat) : V (l.take (i + 1)) = V (l.take i) + Bs ^ i * dg l i := by
  rcases Nat.lt_or_ge i l.length with h | h
  · rw [V_split l i h, dg_at l i h]
  · rw [List.take_of_length_le (by omega), List.take_of_length_le h, dg_end l i h]; simp
theorem V_two (l : List Int) (i : Nat) : V l = V (l.take i) + Bs ^ i * V (l.drop i) := by
  rcases Nat.lt_or_ge i l.length with h | h
  · have := V_app (l.take i) (l.drop i)
    rw [List.take_append_drop, List.length_take, Nat.min_eq_left (by omega)] at this
    exact this
  · rw [List.take_of_length_le h, List.drop_of_length_le h]; simp [V]
theorem last_dg {l : List Int} (h : Nrm l) (h0 : l ≠ []) : dg l (l.length - 1) ≠ 0 := by
  rcases List.eq_nil_or_concat l with rfl | ⟨r, d, rfl⟩
  · exact absurd rfl h0
  · rw [List.concat_eq_append] at h ⊢
    have hd : d ≠ 0 := fun e => h.2 (by simp [e])
    have hd2 := h.1 d (by simp)
    rw [List.length_append, List.length_singleton, Nat.add_sub_cancel, dg_at _ _ (by simp)]
    simp
    omega

/-! ### plus -/
theorem carry_digit (c x y : Nat) (hx : x < 1000000000) (hy : y < 1000000000) (hc : c ≤ 1) :
    ∃ m q : Nat, ((c : Int) + (x : Int) + (y : Int)) % 4294967296 % 1000000000 = (m : Int) ∧ ((c : Int) + (x : Int) + (y : Int)) % 4294967296 / 1000000000 = (q : Int) ∧ c + x + y = m + Bs * q ∧ q ≤ 1 ∧ Dig [(m : Int)] ∧ (x = 0 → y = 0 → q = 0) ∧ (q = 0 → 0 < c + x + y → m ≠ 0) := by
  refine ⟨(c + x + y) % 1000000000, (c + x + y) / 1000000000, by omega, by omega, by rw [Bs_eq]; omega, by omega, Dig.one (by omega), by omega, by omega⟩
theorem wr_1 (i : Nat) (h : i ≤ 4000000) : wrap64 ((i : Int) + 1) = ((i + 1 : Nat) : Int) := by unfold wrap64; omega
theorem lim_ok (n : Nat) (h : n ≤ 4000000) : n < 35184372088832 := by omega
theorem plus_sum (P c A C m q A' C' : Nat) (x y : Nat) (h : c + x + y = m + Bs * q) (hA : A = x + Bs * A') (hC : C = y + Bs * C') : P * (c + A + C) = P * m + P * Bs * (q + A' + C') := by
  rw [hA, hC, Nat.mul_assoc, ← Nat.mul_add]
  congr 1
  rw [Nat.mul_add, Nat.mul_add]
  omega
theorem emod_small (c : Nat) (hc : c ≤ 1) : Int.tmod (c : Int) 1000000000 = ((c : Int) + 0 + 0) % 4294967296 % 1000000000 ∧ (Int.tdiv (c : Int) 1000000000) % 4294967296 = ((c : Int) + 0 + 0) % 4294967296 / 1000000000 := by
  rcases Nat.le_one_iff_eq_zero_or_eq_one.1 hc with rfl | rfl <;> decide
theorem plus_step (a b out : List Int) (c i : Nat) (hc : c ≤ 1) (k : Nat) : exact_nat_plus.l0 (k + 2) a b out (c : Int) (i : Int) =
    if (i : Int) < (a.length : Int) ∨ (i : Int) < (b.length : Int) ∨ 0 < (c : Int) then
      if out.length < 35184372088832 then
        exact_nat_plus.l0 k a b (out ++ [((c : Int) + (if (i : Int) < (a.length : Int) then rd a (i : Int) else 0) + (if (i : Int) < (b.length : Int) then rd b (i : Int) else 0)) % 4294967296 % 1000000000]) (((c : Int) + (if (i : Int) < (a.length : Int) then rd a (i : Int) else 0) + (if (i : Int) < (b.length : Int) then rd b (i : Int) else 0)) % 4294967296 / 1000000000) (wrap64 ((i : Int) + 1))
      else none
    else some out := by
  have h0 : (0 : Int) ≤ (i : Int) := Int.natCast_nonneg i
  rw [exact_nat_plus.l0]
  by_cases h1 : (i : Int) < (a.length : Int)
  · rw [if_pos h1, if_pos (Or.inl h1), exact_nat_plus.j1, if_pos rfl, if_pos h1, if_pos h0, if_pos h1]
    by_cases h2 : (i : Int) < (b.length : Int)
    · rw [if_pos h2, if_pos h2, Int.emod_add_emod]
    · rw [if_neg h2, if_neg h2, Int.add_zero]
  · rw [if_neg h1]
    by_cases h2 : (i : Int) < (b.length : Int)
    · rw [if_pos h2, if_pos (Or.inr (Or.inl h2)), exact_nat_plus.j1, if_pos rfl, if_neg h1, if_pos h2, if_pos h0, if_neg h1, if_pos h2, Int.add_zero]
    · rw [if_neg h2, exact_nat_plus.j1]
      by_cases h3 : (0 : Int) < (c : Int)
      · rw [if_pos (decide_eq_true h3), if_pos (Or.inr (Or.inr h3)), if_neg h1, if_neg h2, if_neg h1, if_neg h2, (emod_small c hc).1, (emod_small c hc).2]
      · rw [if_neg (by simp; omega), if_neg (by omega)]
theorem plus_l0 (a b : List Int) (ha : Nrm a) (hb : Nrm b) (hla : a.length ≤ 1000000) (hlb : b.length ≤ 1000000) (d : Nat) : ∀ (k i c : Nat) (out : List Int),
    a.length + b.length + 2 ≤ d + i → 2 * d + 1 ≤ k → i ≤ a.length + b.length + 1 → out.length = i → Dig out → c ≤ 1 → Aside0 (a.length ≤ i → b.length ≤ i → c = 0 → out.getLast? ≠ some 0) → Aside0 (a.length + 1 ≤ i → b.length + 1 ≤ i → c = 0) →
    ∃ r, exact_nat_plus.l0 k a b out (c : Int) (i : Int) = some r ∧ V r = V out + Bs ^ i * (c + V (a.drop i) + V (b.drop i)) ∧ Nrm r ∧ r.length ≤ a.length + b.length + 1 := by
  induction d with
  | zero => intro k i c out hd hk hi; omega
  | succ d ih =>
    intro k i c out hd hk hi hol hdig hc hlast hbig
    obtain ⟨k, rfl⟩ : ∃ q, k = q + 2 := ⟨k - 2, by omega⟩
    rw [plus_step a b out c i hc k]
    by_cases hgo : i < a.length ∨ i < b.length ∨ 0 < c
    · obtain ⟨m, q, e1, e2, e3, e4, e5, e6, e7⟩ := carry_digit c (dg a i) (dg b i) (dg_lt ha.1 i) (dg_lt hb.1 i) hc
      have E3 := Aside0.mk e3
      have E6 := Aside0.mk e6
      have E7 := Aside0.mk e7
      clear e3 e6 e7
      have hcase : i ≤ a.length + b.length := by
        rcases hgo with h | h | h
        · omega
        · omega
        · by_cases g1 : a.length + 1 ≤ i
          · by_cases g2 : b.length + 1 ≤ i
            · have := hbig.out g1 g2; omega
            · omega
          · omega
      have Q0 : Aside0 (a.length ≤ i → b.length ≤ i → q = 0) := ⟨fun g1 g2 => E6.out (dg_end a i g1) (dg_end b i g2)⟩
      have HN : Aside0 (a.length ≤ i + 1 → b.length ≤ i + 1 → 0 < c + dg a i + dg b i) := by
        refine ⟨fun g1 g2 => ?_⟩
        rcases hgo with h | h | h
        · have e : i = a.length - 1 := by omega
          have := last_dg ha (by intro e; rw [e] at h; simp at h)
          rw [← e] at this; omega
        · have e : i = b.length - 1 := by omega
          have := last_dg hb (by intro e; rw [e] at h; simp at h)
          rw [← e] at this; omega
        · omega
      rw [if_pos (by omega), if_pos (lim_ok _ (by omega)), dg_rd ha.1 i, dg_rd hb.1 i, e1, e2, wr_1 i (by omega)]
      clear e1 e2
      obtain ⟨r, h1, h2, h3, h4⟩ := ih k (i + 1) q (out ++ [(m : Int)]) (by omega) (by omega) (by omega) (by rw [List.length_append, List.length_singleton, hol]) (hdig.app e5) e4
        ⟨fun g1 g2 g3 => by
          rw [List.getLast?_append]
          simp only [List.getLast?_singleton, Option.some_or, ne_eq, Option.some.injEq]
          have := E7.out g3 (HN.out g1 g2)
          omega⟩
        ⟨fun g1 g2 => Q0.out (by omega) (by omega)⟩
      refine ⟨r, h1, ?_, h3, h4⟩
      have hv : V [(m : Int)] = m := by simp [V]
      rw [h2, V_app, hol, hv, plus_sum (Bs ^ i) c _ _ m q _ _ (dg a i) (dg b i) E3.out (V_drop a i) (V_drop b i), Nat.pow_succ, Nat.add_assoc]
    · rw [if_neg (by omega)]
      have c0 : c = 0 := by omega
      subst c0
      refine ⟨out, rfl, ?_, ⟨hdig, hlast.out (by omega) (by omega) rfl⟩, by omega⟩
      rw [List.drop_of_length_le (by omega), List.drop_of_length_le (by omega)]; simp [V]
theorem plus_f (a b : List Int) (ha : Nrm a) (hb : Nrm b) (hla : a.length ≤ 1000000) (hlb : b.length ≤ 1000000) (k : Nat) (hk : 2 * a.length + 2 * b.length + 10 ≤ k) :
    ∃ r, exact_nat_plus.f k a b = some r ∧ V r = V a + V b ∧ Nrm r ∧ r.length ≤ a.length + b.length + 1 := by
  obtain ⟨r, h1, h2, h3, h4⟩ := plus_l0 a b ha hb hla hlb (a.length + b.length + 2) k 0 0 [] (by omega) (by omega) (by omega) rfl Dig.nil (by omega) ⟨fun g1 g2 _ => by simp⟩ ⟨fun g1 g2 => by omega⟩
  have hm : mx (a.length : Int) (b.length : Int) ≤ 1000000 ∧ 0 ≤ mx (a.length : Int) (b.length : Int) := by unfold mx; split <;> omega
  have hw : wrap64 (mx (a.length : Int) (b.length : Int) + 1) = mx (a.length : Int) (b.length : Int) + 1 := by unfold wrap64; omega
  refine ⟨r, ?_, ?_, h3, h4⟩
  · unfold exact_nat_plus.f
    rw [hw, if_pos (by omega), if_pos (by omega)]
    exact h1
  rw [h2]
  simp [V]

/-! ### minus -/
theorem V_set (l : List Int) (i : Nat) (d : Int) (h : i < l.length) : V (l.set i d) + Bs ^ i * dg l i = V l + Bs ^ i * d.toNat := by
  have e1 := V_two (l.set i d) i
  have e2 := V_two l i
  have t : (l.set i d).take i = l.take i := by rw [List.take_set_of_le (Nat.le_refl _)]
  rw [t, V_drop (l.set i d) i] at e1
  rw [V_drop l i] at e2
  have hd : dg (l.set i d) i = d.toNat := by rw [dg_at _ _ (by simpa using h)]; simp
  have hr : (l.set i d).drop (i + 1) = l.drop (i + 1) := by rw [List.drop_set_of_lt (by omega)]
  rw [hd, hr] at e1
  rw [e1, e2, Nat.mul_add, Nat.mul_add]
  omega
theorem Dig.set {l : List Int} (h : Dig l) (i : Nat) (d : Int) (hd : 0 ≤ d ∧ d < 1000000000) : Dig (l.set i d) := by
  intro x hx
  rcases List.mem_or_eq_of_mem_set hx with hx | rfl
  · exact h x hx
  · exact hd
theorem borrow_lt (x y : Int) (hx : 0 ≤ x ∧ x < 1000000000) (hy : 0 ≤ y ∧ y ≤ 1000000000) (h : x < y) : (x + 1000000000) % 4294967296 = x + 1000000000 ∧ (x + 1000000000 - y) % 4294967296 = x + 1000000000 - y ∧ (0 ≤ x + 1000000000 - y ∧ x + 1000000000 - y < 1000000000) := by
  refine ⟨by omega, by omega, by omega, by omega⟩
theorem borrow_ge (x y : Int) (hx : 0 ≤ x ∧ x < 1000000000) (hy : 0 ≤ y ∧ y ≤ 1000000000) (h : ¬ x < y) : (x - y) % 4294967296 = x - y ∧ (0 ≤ x - y ∧ x - y < 1000000000) := by
  refine ⟨by omega, by omega, by omega⟩
theorem mod_y (y : Int) (h : 0 ≤ y ∧ y ≤ 1000000000) : y % 4294967296 = y := by omega
theorem sum_y (c x : Nat) (hc : c ≤ 1) (hx : x < 1000000000) : (0 : Int) ≤ ((c + x : Nat) : Int) ∧ ((c + x : Nat) : Int) ≤ 1000000000 := by omega
/-- The law of one step. -/
theorem minus_sum (P VO VB VA c bi ai x c' : Nat) (hv : VO + VB + c = VA + (c + c * P)) (he : x + (c + bi) = ai + Bs * c') : VO + P * x + (VB + P * bi) + c' = VA + P * ai + (c' + c' * (P * Bs)) := by
  have e5 := congrArg (fun z => P * z) he
  simp only [Nat.mul_add] at e5
  have e6 : P * (Bs * c') = c' * (P * Bs) := by rw [Nat.mul_comm c', Nat.mul_assoc]
  have e7 : P * c = c * P := Nat.mul_comm _ _
  rw [e6, e7] at e5
  omega
theorem nat_of_digits (x : Int) (y : Nat) (a : Int) (c' : Nat) (hx : 0 ≤ x) (ha : 0 ≤ a) (he : x + (y : Int) = a + 1000000000 * (c' : Int)) : x.toNat + y = a.toNat + Bs * c' := by rw [Bs_eq]; omega
theorem minus_l0 (a b : List Int) (ha : Dig a) (hb : Dig b) (hla : a.length ≤ 1000000) (d : Nat) : ∀ (k i c : Nat) (out : List Int),
    i + d = a.length → d + a.length + 2 ≤ k → out.length = a.length → Dig out → out.drop i = a.drop i → c ≤ 1 → V (out.take i) + V (b.take i) + c = V (a.take i) + (c + c * Bs ^ i) →
    ∃ (o : List Int) (e : Nat), exact_nat_minus.l0 k b out (c : Int) (a.length : Int) (i : Int) = some (trimL o) ∧ Dig o ∧ o.length = a.length ∧ V o + V (b.take a.length) = V a + e * Bs ^ a.length := by
  induction d with
  | zero =>
    intro k i c out hi hk hol hdo hdr hc hv
    obtain ⟨k, rfl⟩ : ∃ q, k = q + 1 := ⟨k - 1, by omega⟩
    obtain rfl : i = a.length := by omega
    simp only [exact_nat_minus.l0]
    rw [if_neg (by omega), trim_f out k (by omega) (by omega)]
    refine ⟨out, c, rfl, hdo, hol, ?_⟩
    rw [List.take_of_length_le (by omega), List.take_length] at hv
    omega
  | succ d ih =>
    intro k i c out hi hk hol hdo hdr hc hv
    obtain ⟨k, rfl⟩ : ∃ q, k = q + 1 := ⟨k - 1, by omega⟩
    have hio : i < out.length := by omega
    have hia : i < a.length := by omega
    have eo : out[i] = a[i] := by
      have h1 : out[i]? = a[i]? := by
        have := congrArg (·[0]?) hdr
        simpa [List.getElem?_drop] using this
      rw [List.getElem?_eq_getElem hio, List.getElem?_eq_getElem hia] at h1
      exact Option.some.inj h1
    have da := ha a[i] (List.getElem_mem hia)
    have xb := dg_lt hb i
    have hy0 := sum_y c (dg b i) hc xb
    -- what is stored
    have store : ∀ (x : Int) (c' : Nat), 0 ≤ x ∧ x < 1000000000 → c' ≤ 1 → x + ((c + dg b i : Nat) : Int) = a[i] + 1000000000 * (c' : Int) →
        ∃ (o : List Int) (e : Nat), exact_nat_minus.l0 k b (out.set i x) (c' : Int) (a.length : Int) ((i + 1 : Nat) : Int) = some (trimL o) ∧ Dig o ∧ o.length = a.length ∧ V o + V (b.take a.length) = V a + e * Bs ^ a.length := by
      intro x c' hx hc' he
      refine ih k (i + 1) c' (out.set i x) (by omega) (by omega) (by simpa using hol) (hdo.set i x hx) ?_ hc' ?_
      · rw [List.drop_set_of_lt (by omega)]
        have := congrArg (List.drop 1) hdr
        rw [List.drop_drop, List.drop_drop] at this
        exact this
      · have t1 : dg (out.set i x) i = x.toNat := by rw [dg_at _ _ (by simpa using hio)]; simp
        have t2 : (out.set i x).take i = out.take i := by rw [List.take_set_of_le (Nat.le_refl _)]
        rw [V_takeS, V_takeS, V_takeS, t1, t2, dg_at a i hia, Nat.pow_succ]
        exact minus_sum _ _ _ _ c _ _ _ c' hv (nat_of_digits x (c + dg b i) a[i] c' hx.1 da.1 he)
    have key : ∀ (y : Int), y = ((c + dg b i : Nat) : Int) →
        ∃ (o : List Int) (e : Nat), (if rd out (i : Int) < y then ((some (out.set i ((rd out (i : Int) + 1000000000) % 4294967296) : List Int)).bind fun z => exact_nat_minus.l0 k b (z.set i ((rd z (i : Int) - y) % 4294967296)) 1 (a.length : Int) ((i + 1 : Nat) : Int))
          else exact_nat_minus.l0 k b (out.set i ((rd out (i : Int) - y) % 4294967296)) 0 (a.length : Int) ((i + 1 : Nat) : Int)) = some (trimL o) ∧ Dig o ∧ o.length = a.length ∧ V o + V (b.take a.length) = V a + e * Bs ^ a.length := by
      intro y hy
      rw [← hy] at hy0 store
      rw [rd_nat out i hio, eo]
      by_cases hlt : a[i] < y
      · obtain ⟨h1, h2, h3⟩ := borrow_lt a[i] y da hy0 hlt
        rw [if_pos hlt, Option.bind_some, h1]
        have hz : rd (out.set i (a[i] + 1000000000)) (i : Int) = a[i] + 1000000000 := by rw [rd_nat _ i (by simpa using hio)]; simp
        rw [hz, List.set_set, h2]
        exact store _ 1 h3 (Nat.le_refl _) (by omega)
      · obtain ⟨h2, h3⟩ := borrow_ge a[i] y da hy0 hlt
        rw [if_neg hlt, h2]
        exact store _ 0 h3 (Nat.zero_le _) (by omega)
    simp only [exact_nat_minus.l0]
    rw [if_pos (by omega), wr_1 i (by omega), Int.toNat_natCast]
    by_cases hb1 : i < b.length
    · have hd2 := dg_rd hb i
      rw [if_pos (by omega)] at hd2
      have e9 : ((c : Int) + (dg b i : Int)) = ((c + dg b i : Nat) : Int) := by omega
      rw [if_pos (by omega), if_pos (by omega), if_pos (by omega), hd2, e9, mod_y _ hy0]
      exact key _ rfl
    · have hd2 := dg_end b i (by omega)
      rw [if_neg (by omega), if_pos (by omega), if_pos (by omega)]
      exact key (c : Int) (by rw [hd2]; omega)
theorem minus_f (a b : List Int) (ha : Nrm a) (hb : Nrm b) (hla : a.length ≤ 1000000) (hle : V b ≤ V a) (k : Nat) (hk : 2 * a.length + 5 ≤ k) :
    ∃ r, exact_nat_minus.f k a b = some r ∧ V r = V a - V b ∧ Nrm r ∧ r.length ≤ a.length := by
  have hlen : b.length ≤ a.length := by
    rcases Nat.lt_or_ge a.length b.length with h | h
    · have := V_len_lt ha hb h; omega
    · exact h
  obtain ⟨o, e, h1, h2, h3, h4⟩ := minus_l0 a b ha.1 hb.1 hla a.length k 0 0 a (by omega) (by omega) rfl ha.1 rfl (by omega) (by simp [V])
  unfold exact_nat_minus.f exact_nat_uint32.f
  rw [if_pos (by omega), Option.bind_some]
  refine ⟨trimL o, h1, ?_, trim_nrm h2, by have := trim_len o; omega⟩
  rw [trim_V]
  rw [List.take_of_length_le hlen] at h4
  have h5 := V_lt h2
  rw [h3] at h5
  rcases Nat.eq_zero_or_pos e with h0 | h0
  · rw [h0] at h4; omega
  · have : Bs ^ a.length ≤ e * Bs ^ a.length := Nat.le_mul_of_pos_left _ h0
    omega
end Go.Proofs.YtefhcgnamfnkbaaGreatDoor.Pure
