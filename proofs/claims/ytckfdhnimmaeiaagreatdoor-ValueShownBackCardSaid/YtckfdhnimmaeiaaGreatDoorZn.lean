/- Natural numbers in the base 10^9, as lists of digits: their values; trim, compare, plus, minus. Natural numbers in the base 10^9: plus, minus, times. Natural numbers in the base 10^9: times. Natural numbers in the base 10^9: digit, divide, common. Natural numbers in the base 10^9: divide, common. Natural numbers in the base 10^9: parse. Natural numbers in the base 10^9: text; decimal numerals. -/
import Derived.Test.YtckfdhnimmaeiaaGreatDoorPrx2
import Derived.Test.YtckfdhnimmaeiaaGreatDoorPrx3
import Derived.Test.YtckfdhnimmaeiaaGreatDoorPrx4
import Derived.Test.YtckfdhnimmaeiaaGreatDoorPlus
import Derived.Test.YtckfdhnimmaeiaaGreatDoorText
import Derived.Lib.Atoi
import Derived.Lib.Strings
import Derived.Lib.ItoaNum
namespace Go.Proofs.YtckfdhnimmaeiaaGreatDoor.Pure
open Go.RowKit Go.Proofs.YtckfdhnimmaeiaaGreatDoor.Pr Go.Proofs.YtckfdhnimmaeiaaGreatDoorW.PrintWords Go.Proofs.YtckfdhnimmaeiaaGreatDoorW.PrintLast
/-! ### Values -/
def Bs : Nat := 1000000000
theorem Bs_eq : Bs = 1000000000 := rfl
def Dig (l : List Int) : Prop := ∀ d ∈ l, 0 ≤ d ∧ d < 1000000000
/-- What a row of digits spells, the least significant digit first. -/
def V : List Int → Nat
  | [] => 0
  | d :: r => d.toNat + Bs * V r
/-- No zero at the end. -/
def Nrm (l : List Int) : Prop := Dig l ∧ l.getLast? ≠ some 0
theorem Dig.tail {d : Int} {r : List Int} (h : Dig (d :: r)) : Dig r := fun x hx => h x (List.mem_cons_of_mem _ hx)
theorem Dig.head {d : Int} {r : List Int} (h : Dig (d :: r)) : 0 ≤ d ∧ d < 1000000000 := h d List.mem_cons_self
theorem Dig.app {a b : List Int} (h : Dig a) (g : Dig b) : Dig (a ++ b) := fun x hx => (List.mem_append.1 hx).elim (h x) (g x)
theorem Dig.take {a : List Int} (h : Dig a) (n : Nat) : Dig (a.take n) := fun x hx => h x (List.mem_of_mem_take hx)
theorem Dig.drop {a : List Int} (h : Dig a) (n : Nat) : Dig (a.drop n) := fun x hx => h x (List.mem_of_mem_drop hx)
theorem Dig.one {d : Int} (h : 0 ≤ d ∧ d < 1000000000) : Dig [d] := fun x hx => by rw [List.mem_singleton.1 hx]; exact h
theorem Dig.nil : Dig [] := fun _ h => by cases h
theorem V_app (a b : List Int) : V (a ++ b) = V a + Bs ^ a.length * V b := by
  induction a with
  | nil => simp [V]
  | cons d r ih =>
    rw [List.cons_append, V, V, ih, List.length_cons, Nat.pow_succ, Nat.mul_add, Nat.mul_comm (Bs ^ r.length) Bs, Nat.mul_assoc]
    omega
theorem V_lt {l : List Int} (h : Dig l) : V l < Bs ^ l.length := by
  induction l with
  | nil => simp [V]
  | cons d r ih =>
    have h1 := ih h.tail
    have h2 := h.head
    have h3 : Bs * (V r + 1) ≤ Bs * Bs ^ r.length := Nat.mul_le_mul_left _ h1
    rw [V, List.length_cons, Nat.pow_succ, Nat.mul_comm _ Bs]
    rw [Nat.mul_add] at h3
    have : d.toNat < Bs := by rw [Bs_eq]; omega
    omega
theorem V_zeros (n : Nat) : V (List.replicate n 0) = 0 := by
  induction n with
  | zero => rfl
  | succ n ih => rw [List.replicate_succ, V, ih]; rfl
theorem V_eq_zero {l : List Int} (h : Dig l) (hv : V l = 0) : ∀ d ∈ l, d = 0 := by
  induction l with
  | nil => intro d hd; cases hd
  | cons a r ih =>
    have h2 := h.head
    rw [V] at hv
    have h3 : Bs * V r = 0 := by omega
    have h4 : V r = 0 := by
      rcases Nat.mul_eq_zero.1 h3 with h | h
      · rw [Bs_eq] at h; cases h
      · exact h
    intro d hd
    rcases List.mem_cons.1 hd with rfl | hd
    · omega
    · exact ih h.tail h4 d hd
theorem Nrm.zero {l : List Int} (h : Nrm l) (hv : V l = 0) : l = [] := by
  rcases List.eq_nil_or_concat l with rfl | ⟨r, d, rfl⟩
  · rfl
  · exfalso
    have := V_eq_zero h.1 hv d (by simp)
    apply h.2
    simp [this]
theorem Nrm.tail {d : Int} {r : List Int} (h : Nrm (d :: r)) : Nrm r := by
  refine ⟨h.1.tail, fun e => h.2 ?_⟩
  cases r with
  | nil => cases e
  | cons a s => rw [List.getLast?_cons_cons]; exact e
theorem Nrm.nil : Nrm [] := ⟨Dig.nil, by simp⟩
/-- A number has one row of digits. -/
theorem V_inj : ∀ {a b : List Int}, Nrm a → Nrm b → V a = V b → a = b
  | [], b, _, hb, h => (hb.zero (by rw [← h]; rfl)).symm
  | d :: r, [], ha, _, h => ha.zero (by rw [h]; rfl)
  | d :: r, e :: s, ha, hb, h => by
    have h1 := ha.1.head
    have h2 := hb.1.head
    simp only [V, Bs_eq] at h
    have e1 : d.toNat = e.toNat := by omega
    have e2 : V r = V s := by omega
    have : d = e := by omega
    rw [this, V_inj ha.tail hb.tail e2]
theorem V_pos_len {l : List Int} (h : Nrm l) (h0 : l ≠ []) : Bs ^ (l.length - 1) ≤ V l := by
  rcases List.eq_nil_or_concat l with rfl | ⟨r, d, rfl⟩
  · exact absurd rfl h0
  · rw [List.concat_eq_append, V_app]
    have hd : d ≠ 0 := fun e => h.2 (by simp [e])
    have hd2 := h.1 d (by simp)
    have : 1 ≤ V [d] := by
      show 1 ≤ d.toNat + Bs * 0
      omega
    rw [List.length_append, List.length_singleton, Nat.add_sub_cancel]
    have := Nat.mul_le_mul_left (Bs ^ r.length) this
    omega
/-! ### trim -/
def trimL (l : List Int) : List Int := (l.reverse.dropWhile (fun d => d == 0)).reverse
theorem trim_snoc (l : List Int) (d : Int) : trimL (l ++ [d]) = if d = 0 then trimL l else l ++ [d] := by
  unfold trimL
  rw [List.reverse_append]
  by_cases h : d = 0
  · simp [h]
  · simp [h]
theorem trim_nil : trimL [] = [] := rfl
theorem snoc_ind {P : List Int → Prop} (h0 : P []) (h1 : ∀ l d, P l → P (l ++ [d])) (l : List Int) : P l := by
  have : ∀ n, ∀ l : List Int, l.length = n → P l := by
    intro n
    induction n with
    | zero => intro l hl; rw [List.eq_nil_of_length_eq_zero hl]; exact h0
    | succ n ih =>
      intro l hl
      rcases List.eq_nil_or_concat l with rfl | ⟨r, d, rfl⟩
      · exact h0
      · rw [List.concat_eq_append] at hl ⊢
        exact h1 r d (ih r (by rw [List.length_append, List.length_singleton] at hl; omega))
  exact this l.length l rfl
theorem trim_V (l : List Int) : V (trimL l) = V l := by
  refine snoc_ind (P := fun l => V (trimL l) = V l) rfl (fun l d ih => ?_) l
  rw [trim_snoc]
  by_cases h : d = 0
  · rw [if_pos h, ih, V_app, h]; simp [V]
  · rw [if_neg h]
theorem trim_sub (l : List Int) : ∃ n, trimL l = l.take n := by
  refine snoc_ind (P := fun l => ∃ n, trimL l = l.take n) ⟨0, rfl⟩ (fun l d ih => ?_) l
  rw [trim_snoc]
  obtain ⟨n, hn⟩ := ih
  by_cases h : d = 0
  · rw [if_pos h]
    refine ⟨min n l.length, ?_⟩
    rw [hn, List.take_append_of_le_length (Nat.min_le_right _ _), Nat.min_def]
    split
    · rfl
    · rw [List.take_of_length_le (by omega), List.take_length]
  · rw [if_neg h]
    exact ⟨(l ++ [d]).length, by rw [List.take_length]⟩
theorem trim_len (l : List Int) : (trimL l).length ≤ l.length := by
  obtain ⟨n, hn⟩ := trim_sub l
  rw [hn, List.length_take]; omega
theorem trim_nrm {l : List Int} (h : Dig l) : Nrm (trimL l) := by
  refine ⟨?_, ?_⟩
  · obtain ⟨n, hn⟩ := trim_sub l
    rw [hn]; exact h.take n
  · clear h
    refine snoc_ind (P := fun l => (trimL l).getLast? ≠ some 0) (by simp [trim_nil]) (fun l d ih => ?_) l
    rw [trim_snoc]
    by_cases h : d = 0
    · rw [if_pos h]; exact ih
    · rw [if_neg h]; simp [h]
theorem rd_nat (l : List Int) (i : Nat) (h : i < l.length) : rd l (i : Int) = l[i] := by
  unfold rd
  rw [Int.toNat_natCast, List.getD_eq_getElem?_getD, List.getElem?_eq_getElem h]; rfl
theorem wr_sub1 (n : Nat) (h1 : 1 ≤ n) (h : n ≤ 4611686018427387904) : wrap64 ((n : Int) - 1) = ((n - 1 : Nat) : Int) := by unfold wrap64; omega
theorem trim_f (l : List Int) : ∀ k, l.length < k → l.length ≤ 4611686018427387904 → exact_nat_trim.f k l = some (trimL l) := by
  refine snoc_ind (P := fun l => ∀ k, l.length < k → l.length ≤ 4611686018427387904 → exact_nat_trim.f k l = some (trimL l)) ?_ (fun l d ih => ?_) l
  · intro k hk _
    obtain ⟨k, rfl⟩ : ∃ q, k = q + 1 := ⟨k - 1, by omega⟩
    rfl
  · intro k hk hl
    obtain ⟨k, rfl⟩ : ∃ q, k = q + 1 := ⟨k - 1, by omega⟩
    rw [List.length_append, List.length_singleton] at hk hl
    have hlen : (l ++ [d]).length = l.length + 1 := by simp
    have hi := ih k (by omega) (by omega)
    unfold exact_nat_trim.f at hi ⊢
    simp only [exact_nat_trim.l0]
    rw [hlen, wr_sub1 (l.length + 1) (by omega) hl, Nat.add_sub_cancel, if_pos (by omega), if_pos (by omega), if_pos (by omega), rd_nat _ _ (by rw [hlen]; omega), trim_snoc]
    rw [List.getElem_append_right (Nat.le_refl _)]
    simp only [Nat.sub_self, List.getElem_cons_zero]
    by_cases h : d = 0
    · rw [if_pos h, if_pos h, if_pos (by omega), Int.toNat_natCast, List.take_append_of_le_length (Nat.le_refl _), List.take_length]
      exact hi
    · rw [if_neg h, if_neg h]
/-! ### compare -/
theorem V_split (l : List Int) (i : Nat) (h : i < l.length) : V (l.take (i + 1)) = V (l.take i) + Bs ^ i * (l[i]).toNat := by
  rw [List.take_add_one, List.getElem?_eq_getElem h, V_app, List.length_take, Nat.min_eq_left (by omega)]
  show _ = _
  simp [V]
/-- A number is less if its digits are, from the highest down. -/
theorem compare_l0 (a b : List Int) (ha : Dig a) (hb : Dig b) (hl : a.length = b.length) (hs : a.length ≤ 4611686018427387904) : ∀ (i k : Nat), i ≤ a.length → i < k →
    ∃ c : Int, exact_nat_compare.l0 k a b ((i : Int) - 1) = some c ∧ (c = 0 ↔ V (a.take i) = V (b.take i)) ∧ (c < 0 ↔ V (a.take i) < V (b.take i)) := by
  intro i
  induction i with
  | zero =>
    intro k _ hk
    obtain ⟨k, rfl⟩ : ∃ q, k = q + 1 := ⟨k - 1, by omega⟩
    refine ⟨0, ?_, by simp, by simp⟩
    simp only [exact_nat_compare.l0]
    rw [if_neg (by omega)]
  | succ i ih =>
    intro k hi hk
    obtain ⟨k, rfl⟩ : ∃ q, k = q + 1 := ⟨k - 1, by omega⟩
    have e : (((i + 1 : Nat) : Int) - 1) = (i : Int) := by omega
    have w : wrap64 ((i : Int) - 1) = (i : Int) - 1 := by unfold wrap64; omega
    have hia : i < a.length := by omega
    have hib : i < b.length := by omega
    have sa := V_split a i hia
    have sb := V_split b i hib
    have la := V_lt (ha.take i)
    have lb := V_lt (hb.take i)
    rw [List.length_take, Nat.min_eq_left (by omega)] at la lb
    have da := ha a[i] (List.getElem_mem hia)
    have db := hb b[i] (List.getElem_mem hib)
    rw [e]
    simp only [exact_nat_compare.l0]
    rw [if_pos (by omega), if_pos (by omega), if_pos (by omega), if_pos (by omega), rd_nat a i hia, rd_nat b i hib, w, sa, sb]
    by_cases h1 : a[i] = b[i]
    · rw [if_pos h1]
      obtain ⟨c, hc, h2, h3⟩ := ih k (by omega) (by omega)
      refine ⟨c, hc, ?_, ?_⟩
      · rw [h2, h1]; omega
      · rw [h3, h1]; omega
    · rw [if_neg h1]
      by_cases h2 : a[i] < b[i]
      · rw [if_pos h2]
        have h4 : Bs ^ i * ((a[i]).toNat + 1) ≤ Bs ^ i * (b[i]).toNat := Nat.mul_le_mul_left _ (by omega)
        rw [Nat.mul_add] at h4
        refine ⟨-1, rfl, ?_, ?_⟩
        · constructor
          · intro h; cases h
          · intro h; omega
        · constructor
          · intro _; omega
          · intro _; decide
      · rw [if_neg h2]
        have h4 : Bs ^ i * ((b[i]).toNat + 1) ≤ Bs ^ i * (a[i]).toNat := Nat.mul_le_mul_left _ (by omega)
        rw [Nat.mul_add] at h4
        refine ⟨1, rfl, ?_, ?_⟩
        · constructor
          · intro h; cases h
          · intro h; omega
        · constructor
          · intro h; exact absurd h (by decide)
          · intro h; omega
theorem V_len_lt {a b : List Int} (ha : Nrm a) (hb : Nrm b) (h : a.length < b.length) : V a < V b := by
  have h1 := V_lt ha.1
  have h2 := V_pos_len hb (by intro e; rw [e] at h; simp at h)
  have h3 : Bs ^ a.length ≤ Bs ^ (b.length - 1) := Nat.pow_le_pow_right (by rw [Bs_eq]; decide) (by omega)
  omega
theorem compare_f (a b : List Int) (ha : Nrm a) (hb : Nrm b) (hla : a.length ≤ 1000000) (hlb : b.length ≤ 1000000) (k : Nat) (hk : a.length < k) :
    ∃ c : Int, exact_nat_compare.f k a b = some c ∧ (c = 0 ↔ V a = V b) ∧ (c < 0 ↔ V a < V b) := by
  unfold exact_nat_compare.f
  by_cases h : a.length = b.length
  · rw [if_pos (by omega)]
    obtain ⟨c, h1, h2, h3⟩ := compare_l0 a b ha.1 hb.1 h (by omega) a.length k (Nat.le_refl _) hk
    have w : wrap64 ((a.length : Int) - 1) = (a.length : Int) - 1 := by unfold wrap64; omega
    rw [w]
    rw [List.take_length, List.take_of_length_le (by omega)] at h2 h3
    exact ⟨c, h1, h2, h3⟩
  · rw [if_neg (by omega)]
    have w : wrap64 ((a.length : Int) - (b.length : Int)) = (a.length : Int) - (b.length : Int) := by unfold wrap64; omega
    rw [w]
    refine ⟨_, rfl, ?_, ?_⟩
    · constructor
      · intro e; omega
      · intro e
        rcases Nat.lt_or_gt_of_ne h with h1 | h1
        · have := V_len_lt ha hb h1; omega
        · have := V_len_lt hb ha h1; omega
    · constructor
      · intro e; exact V_len_lt ha hb (by omega)
      · intro e
        rcases Nat.lt_or_gt_of_ne h with h1 | h1
        · omega
        · have := V_len_lt hb ha h1; omega
end Go.Proofs.YtckfdhnimmaeiaaGreatDoor.Pure
namespace Go.Proofs.YtckfdhnimmaeiaaGreatDoor.Pure
open Go.RowKit Go.Proofs.YtckfdhnimmaeiaaGreatDoor.Pr Go.Proofs.YtckfdhnimmaeiaaGreatDoorW.PrintWords Go.Proofs.YtckfdhnimmaeiaaGreatDoorW.PrintLast
/-- The digit at a place; 0 behind the end. -/
def dg (l : List Int) (i : Nat) : Nat := (l.getD i 0).toNat
theorem dg_at (l : List Int) (i : Nat) (h : i < l.length) : dg l i = (l[i]).toNat := by
  unfold dg; rw [List.getD_eq_getElem?_getD, List.getElem?_eq_getElem h]; rfl
theorem dg_end (l : List Int) (i : Nat) (h : l.length ≤ i) : dg l i = 0 := by
  unfold dg; rw [List.getD_eq_getElem?_getD, List.getElem?_eq_none h]; rfl
theorem dg_lt {l : List Int} (h : Dig l) (i : Nat) : dg l i < 1000000000 := by
  rcases Nat.lt_or_ge i l.length with h1 | h1
  · rw [dg_at l i h1]
    have := h l[i] (List.getElem_mem h1)
    omega
  · rw [dg_end l i h1]; decide
theorem dg_rd {l : List Int} (hd : Dig l) (i : Nat) : (if (i : Int) < (l.length : Int) then rd l (i : Int) else 0) = (dg l i : Int) := by
  rcases Nat.lt_or_ge i l.length with h | h
  · rw [if_pos (by omega), rd_nat l i h, dg_at l i h]
    have := hd l[i] (List.getElem_mem h)
    omega
  · rw [if_neg (by omega), dg_end l i h]; rfl
theorem V_drop (l : List Int) (i : Nat) : V (l.drop i) = dg l i + Bs * V (l.drop (i + 1)) := by
  rcases Nat.lt_or_ge i l.length with h | h
  · rw [List.drop_eq_getElem_cons h, V, dg_at l i h]
  · rw [List.drop_of_length_le h, List.drop_of_length_le (by omega), dg_end l i h]; rfl
theorem V_takeS (l : List Int) (i : Nat) : V (l.take (i + 1)) = V (l.take i) + Bs ^ i * dg l i := by
  rcases Nat.lt_or_ge i l.length with h | h
  · rw [V_split l i h, dg_at l i h]
  · rw [List.take_of_length_le (by omega), List.take_of_length_le h, dg_end l i h]; simp
theorem V_two (l : List Int) (i : Nat) : V l = V (l.take i) + Bs ^ i * V (l.drop i) := by
  rcases Nat.lt_or_ge i l.length with h | h
  · have := V_app (l.take i) (l.drop i)
    rw [List.take_append_drop, List.length_take, Nat.min_eq_left (by omega)] at this
    exact this
  · rw [List.take_of_length_le h, List.drop_of_length_le h]; simp [V]
theorem last_dg {l : List Int} (h : Nrm l) (h0 : l ≠ []) : dg l (l.length - 1) ≠ 0 := by
  rcases List.eq_nil_or_concat l with rfl | ⟨r, d, rfl⟩
  · exact absurd rfl h0
  · rw [List.concat_eq_append] at h ⊢
    have hd : d ≠ 0 := fun e => h.2 (by simp [e])
    have hd2 := h.1 d (by simp)
    rw [List.length_append, List.length_singleton, Nat.add_sub_cancel, dg_at _ _ (by simp)]
    simp
    omega
/-! ### plus -/
theorem carry_digit (c x y : Nat) (hx : x < 1000000000) (hy : y < 1000000000) (hc : c ≤ 1) :
    ∃ m q : Nat, ((c : Int) + (x : Int) + (y : Int)) % 4294967296 % 1000000000 = (m : Int) ∧ ((c : Int) + (x : Int) + (y : Int)) % 4294967296 / 1000000000 = (q : Int) ∧ c + x + y = m + Bs * q ∧ q ≤ 1 ∧ Dig [(m : Int)] ∧ (x = 0 → y = 0 → q = 0) ∧ (q = 0 → 0 < c + x + y → m ≠ 0) := by
  refine ⟨(c + x + y) % 1000000000, (c + x + y) / 1000000000, by omega, by omega, by rw [Bs_eq]; omega, by omega, Dig.one (by omega), by omega, by omega⟩
theorem wr_1 (i : Nat) (h : i ≤ 4000000) : wrap64 ((i : Int) + 1) = ((i + 1 : Nat) : Int) := by unfold wrap64; omega
theorem lim_ok (n : Nat) (h : n ≤ 4000000) : n < 35184372088832 := by omega
theorem plus_sum (P c A C m q A' C' : Nat) (x y : Nat) (h : c + x + y = m + Bs * q) (hA : A = x + Bs * A') (hC : C = y + Bs * C') : P * (c + A + C) = P * m + P * Bs * (q + A' + C') := by
  rw [hA, hC, Nat.mul_assoc, ← Nat.mul_add]
  congr 1
  rw [Nat.mul_add, Nat.mul_add]
  omega
theorem emod_small (c : Nat) (hc : c ≤ 1) : Int.tmod (c : Int) 1000000000 = ((c : Int) + 0 + 0) % 4294967296 % 1000000000 ∧ (Int.tdiv (c : Int) 1000000000) % 4294967296 = ((c : Int) + 0 + 0) % 4294967296 / 1000000000 := by
  rcases Nat.le_one_iff_eq_zero_or_eq_one.1 hc with rfl | rfl <;> decide
theorem plus_step (a b out : List Int) (c i : Nat) (hc : c ≤ 1) (k : Nat) : exact_nat_plus.l0 (k + 2) a b out (c : Int) (i : Int) =
    if (i : Int) < (a.length : Int) ∨ (i : Int) < (b.length : Int) ∨ 0 < (c : Int) then
      if out.length < 35184372088832 then
        exact_nat_plus.l0 k a b (out ++ [((c : Int) + (if (i : Int) < (a.length : Int) then rd a (i : Int) else 0) + (if (i : Int) < (b.length : Int) then rd b (i : Int) else 0)) % 4294967296 % 1000000000]) (((c : Int) + (if (i : Int) < (a.length : Int) then rd a (i : Int) else 0) + (if (i : Int) < (b.length : Int) then rd b (i : Int) else 0)) % 4294967296 / 1000000000) (wrap64 ((i : Int) + 1))
      else none
    else some out := by
  have h0 : (0 : Int) ≤ (i : Int) := Int.natCast_nonneg i
  rw [exact_nat_plus.l0]
  by_cases h1 : (i : Int) < (a.length : Int)
  · rw [if_pos h1, if_pos (Or.inl h1), exact_nat_plus.j1, if_pos rfl, if_pos h1, if_pos h0, if_pos h1]
    by_cases h2 : (i : Int) < (b.length : Int)
    · rw [if_pos h2, if_pos h2, Int.emod_add_emod]
    · rw [if_neg h2, if_neg h2, Int.add_zero]
  · rw [if_neg h1]
    by_cases h2 : (i : Int) < (b.length : Int)
    · rw [if_pos h2, if_pos (Or.inr (Or.inl h2)), exact_nat_plus.j1, if_pos rfl, if_neg h1, if_pos h2, if_pos h0, if_neg h1, if_pos h2, Int.add_zero]
    · rw [if_neg h2, exact_nat_plus.j1]
      by_cases h3 : (0 : Int) < (c : Int)
      · rw [if_pos (decide_eq_true h3), if_pos (Or.inr (Or.inr h3)), if_neg h1, if_neg h2, if_neg h1, if_neg h2, (emod_small c hc).1, (emod_small c hc).2]
      · rw [if_neg (by simp; omega), if_neg (by omega)]
theorem plus_l0 (a b : List Int) (ha : Nrm a) (hb : Nrm b) (hla : a.length ≤ 1000000) (hlb : b.length ≤ 1000000) (d : Nat) : ∀ (k i c : Nat) (out : List Int),
    a.length + b.length + 2 ≤ d + i → 2 * d + 1 ≤ k → i ≤ a.length + b.length + 1 → out.length = i → Dig out → c ≤ 1 → Aside0 (a.length ≤ i → b.length ≤ i → c = 0 → out.getLast? ≠ some 0) → Aside0 (a.length + 1 ≤ i → b.length + 1 ≤ i → c = 0) →
    ∃ r, exact_nat_plus.l0 k a b out (c : Int) (i : Int) = some r ∧ V r = V out + Bs ^ i * (c + V (a.drop i) + V (b.drop i)) ∧ Nrm r ∧ r.length ≤ a.length + b.length + 1 := by
  induction d with
  | zero => intro k i c out hd hk hi; omega
  | succ d ih =>
    intro k i c out hd hk hi hol hdig hc hlast hbig
    obtain ⟨k, rfl⟩ : ∃ q, k = q + 2 := ⟨k - 2, by omega⟩
    rw [plus_step a b out c i hc k]
    by_cases hgo : i < a.length ∨ i < b.length ∨ 0 < c
    · obtain ⟨m, q, e1, e2, e3, e4, e5, e6, e7⟩ := carry_digit c (dg a i) (dg b i) (dg_lt ha.1 i) (dg_lt hb.1 i) hc
      have E3 := Aside0.mk e3
      have E6 := Aside0.mk e6
      have E7 := Aside0.mk e7
      clear e3 e6 e7
      have hcase : i ≤ a.length + b.length := by
        rcases hgo with h | h | h
        · omega
        · omega
        · by_cases g1 : a.length + 1 ≤ i
          · by_cases g2 : b.length + 1 ≤ i
            · have := hbig.out g1 g2; omega
            · omega
          · omega
      have Q0 : Aside0 (a.length ≤ i → b.length ≤ i → q = 0) := ⟨fun g1 g2 => E6.out (dg_end a i g1) (dg_end b i g2)⟩
      have HN : Aside0 (a.length ≤ i + 1 → b.length ≤ i + 1 → 0 < c + dg a i + dg b i) := by
        refine ⟨fun g1 g2 => ?_⟩
        rcases hgo with h | h | h
        · have e : i = a.length - 1 := by omega
          have := last_dg ha (by intro e; rw [e] at h; simp at h)
          rw [← e] at this; omega
        · have e : i = b.length - 1 := by omega
          have := last_dg hb (by intro e; rw [e] at h; simp at h)
          rw [← e] at this; omega
        · omega
      rw [if_pos (by omega), if_pos (lim_ok _ (by omega)), dg_rd ha.1 i, dg_rd hb.1 i, e1, e2, wr_1 i (by omega)]
      clear e1 e2
      obtain ⟨r, h1, h2, h3, h4⟩ := ih k (i + 1) q (out ++ [(m : Int)]) (by omega) (by omega) (by omega) (by rw [List.length_append, List.length_singleton, hol]) (hdig.app e5) e4
        ⟨fun g1 g2 g3 => by
          rw [List.getLast?_append]
          simp only [List.getLast?_singleton, Option.some_or, ne_eq, Option.some.injEq]
          have := E7.out g3 (HN.out g1 g2)
          omega⟩
        ⟨fun g1 g2 => Q0.out (by omega) (by omega)⟩
      refine ⟨r, h1, ?_, h3, h4⟩
      have hv : V [(m : Int)] = m := by simp [V]
      rw [h2, V_app, hol, hv, plus_sum (Bs ^ i) c _ _ m q _ _ (dg a i) (dg b i) E3.out (V_drop a i) (V_drop b i), Nat.pow_succ, Nat.add_assoc]
    · rw [if_neg (by omega)]
      have c0 : c = 0 := by omega
      subst c0
      refine ⟨out, rfl, ?_, ⟨hdig, hlast.out (by omega) (by omega) rfl⟩, by omega⟩
      rw [List.drop_of_length_le (by omega), List.drop_of_length_le (by omega)]; simp [V]
theorem plus_f (a b : List Int) (ha : Nrm a) (hb : Nrm b) (hla : a.length ≤ 1000000) (hlb : b.length ≤ 1000000) (k : Nat) (hk : 2 * a.length + 2 * b.length + 10 ≤ k) :
    ∃ r, exact_nat_plus.f k a b = some r ∧ V r = V a + V b ∧ Nrm r ∧ r.length ≤ a.length + b.length + 1 := by
  obtain ⟨r, h1, h2, h3, h4⟩ := plus_l0 a b ha hb hla hlb (a.length + b.length + 2) k 0 0 [] (by omega) (by omega) (by omega) rfl Dig.nil (by omega) ⟨fun g1 g2 _ => by simp⟩ ⟨fun g1 g2 => by omega⟩
  have hm : mx (a.length : Int) (b.length : Int) ≤ 1000000 ∧ 0 ≤ mx (a.length : Int) (b.length : Int) := by unfold mx; split <;> omega
  have hw : wrap64 (mx (a.length : Int) (b.length : Int) + 1) = mx (a.length : Int) (b.length : Int) + 1 := by unfold wrap64; omega
  refine ⟨r, ?_, ?_, h3, h4⟩
  · unfold exact_nat_plus.f
    rw [hw, if_pos (by omega), if_pos (by omega)]
    exact h1
  rw [h2]
  simp [V]
/-! ### minus -/
theorem V_set (l : List Int) (i : Nat) (d : Int) (h : i < l.length) : V (l.set i d) + Bs ^ i * dg l i = V l + Bs ^ i * d.toNat := by
  have e1 := V_two (l.set i d) i
  have e2 := V_two l i
  have t : (l.set i d).take i = l.take i := by rw [List.take_set_of_le (Nat.le_refl _)]
  rw [t, V_drop (l.set i d) i] at e1
  rw [V_drop l i] at e2
  have hd : dg (l.set i d) i = d.toNat := by rw [dg_at _ _ (by simpa using h)]; simp
  have hr : (l.set i d).drop (i + 1) = l.drop (i + 1) := by rw [List.drop_set_of_lt (by omega)]
  rw [hd, hr] at e1
  rw [e1, e2, Nat.mul_add, Nat.mul_add]
  omega
theorem Dig.set {l : List Int} (h : Dig l) (i : Nat) (d : Int) (hd : 0 ≤ d ∧ d < 1000000000) : Dig (l.set i d) := by
  intro x hx
  rcases List.mem_or_eq_of_mem_set hx with hx | rfl
  · exact h x hx
  · exact hd
theorem borrow_lt (x y : Int) (hx : 0 ≤ x ∧ x < 1000000000) (hy : 0 ≤ y ∧ y ≤ 1000000000) (h : x < y) : (x + 1000000000) % 4294967296 = x + 1000000000 ∧ (x + 1000000000 - y) % 4294967296 = x + 1000000000 - y ∧ (0 ≤ x + 1000000000 - y ∧ x + 1000000000 - y < 1000000000) := by
  refine ⟨by omega, by omega, by omega, by omega⟩
theorem borrow_ge (x y : Int) (hx : 0 ≤ x ∧ x < 1000000000) (hy : 0 ≤ y ∧ y ≤ 1000000000) (h : ¬ x < y) : (x - y) % 4294967296 = x - y ∧ (0 ≤ x - y ∧ x - y < 1000000000) := by
  refine ⟨by omega, by omega, by omega⟩
theorem mod_y (y : Int) (h : 0 ≤ y ∧ y ≤ 1000000000) : y % 4294967296 = y := by omega
theorem sum_y (c x : Nat) (hc : c ≤ 1) (hx : x < 1000000000) : (0 : Int) ≤ ((c + x : Nat) : Int) ∧ ((c + x : Nat) : Int) ≤ 1000000000 := by omega
/-- The law of one step. -/
theorem minus_sum (P VO VB VA c bi ai x c' : Nat) (hv : VO + VB + c = VA + (c + c * P)) (he : x + (c + bi) = ai + Bs * c') : VO + P * x + (VB + P * bi) + c' = VA + P * ai + (c' + c' * (P * Bs)) := by
  have e5 := congrArg (fun z => P * z) he
  simp only [Nat.mul_add] at e5
  have e6 : P * (Bs * c') = c' * (P * Bs) := by rw [Nat.mul_comm c', Nat.mul_assoc]
  have e7 : P * c = c * P := Nat.mul_comm _ _
  rw [e6, e7] at e5
  omega
theorem nat_of_digits (x : Int) (y : Nat) (a : Int) (c' : Nat) (hx : 0 ≤ x) (ha : 0 ≤ a) (he : x + (y : Int) = a + 1000000000 * (c' : Int)) : x.toNat + y = a.toNat + Bs * c' := by rw [Bs_eq]; omega
theorem minus_l0 (a b : List Int) (ha : Dig a) (hb : Dig b) (hla : a.length ≤ 1000000) (d : Nat) : ∀ (k i c : Nat) (out : List Int),
    i + d = a.length → d + a.length + 2 ≤ k → out.length = a.length → Dig out → out.drop i = a.drop i → c ≤ 1 → V (out.take i) + V (b.take i) + c = V (a.take i) + (c + c * Bs ^ i) →
    ∃ (o : List Int) (e : Nat), exact_nat_minus.l0 k b out (c : Int) (a.length : Int) (i : Int) = some (trimL o) ∧ Dig o ∧ o.length = a.length ∧ V o + V (b.take a.length) = V a + e * Bs ^ a.length := by
  induction d with
  | zero =>
    intro k i c out hi hk hol hdo hdr hc hv
    obtain ⟨k, rfl⟩ : ∃ q, k = q + 1 := ⟨k - 1, by omega⟩
    obtain rfl : i = a.length := by omega
    simp only [exact_nat_minus.l0]
    rw [if_neg (by omega), trim_f out k (by omega) (by omega)]
    refine ⟨out, c, rfl, hdo, hol, ?_⟩
    rw [List.take_of_length_le (by omega), List.take_length] at hv
    omega
  | succ d ih =>
    intro k i c out hi hk hol hdo hdr hc hv
    obtain ⟨k, rfl⟩ : ∃ q, k = q + 1 := ⟨k - 1, by omega⟩
    have hio : i < out.length := by omega
    have hia : i < a.length := by omega
    have eo : out[i] = a[i] := by
      have h1 : out[i]? = a[i]? := by
        have := congrArg (·[0]?) hdr
        simpa [List.getElem?_drop] using this
      rw [List.getElem?_eq_getElem hio, List.getElem?_eq_getElem hia] at h1
      exact Option.some.inj h1
    have da := ha a[i] (List.getElem_mem hia)
    have xb := dg_lt hb i
    have hy0 := sum_y c (dg b i) hc xb
    -- what is stored
    have store : ∀ (x : Int) (c' : Nat), 0 ≤ x ∧ x < 1000000000 → c' ≤ 1 → x + ((c + dg b i : Nat) : Int) = a[i] + 1000000000 * (c' : Int) →
        ∃ (o : List Int) (e : Nat), exact_nat_minus.l0 k b (out.set i x) (c' : Int) (a.length : Int) ((i + 1 : Nat) : Int) = some (trimL o) ∧ Dig o ∧ o.length = a.length ∧ V o + V (b.take a.length) = V a + e * Bs ^ a.length := by
      intro x c' hx hc' he
      refine ih k (i + 1) c' (out.set i x) (by omega) (by omega) (by simpa using hol) (hdo.set i x hx) ?_ hc' ?_
      · rw [List.drop_set_of_lt (by omega)]
        have := congrArg (List.drop 1) hdr
        rw [List.drop_drop, List.drop_drop] at this
        exact this
      · have t1 : dg (out.set i x) i = x.toNat := by rw [dg_at _ _ (by simpa using hio)]; simp
        have t2 : (out.set i x).take i = out.take i := by rw [List.take_set_of_le (Nat.le_refl _)]
        rw [V_takeS, V_takeS, V_takeS, t1, t2, dg_at a i hia, Nat.pow_succ]
        exact minus_sum _ _ _ _ c _ _ _ c' hv (nat_of_digits x (c + dg b i) a[i] c' hx.1 da.1 he)
    have key : ∀ (y : Int), y = ((c + dg b i : Nat) : Int) →
        ∃ (o : List Int) (e : Nat), (if rd out (i : Int) < y then ((some (out.set i ((rd out (i : Int) + 1000000000) % 4294967296) : List Int)).bind fun z => exact_nat_minus.l0 k b (z.set i ((rd z (i : Int) - y) % 4294967296)) 1 (a.length : Int) ((i + 1 : Nat) : Int))
          else exact_nat_minus.l0 k b (out.set i ((rd out (i : Int) - y) % 4294967296)) 0 (a.length : Int) ((i + 1 : Nat) : Int)) = some (trimL o) ∧ Dig o ∧ o.length = a.length ∧ V o + V (b.take a.length) = V a + e * Bs ^ a.length := by
      intro y hy
      rw [← hy] at hy0 store
      rw [rd_nat out i hio, eo]
      by_cases hlt : a[i] < y
      · obtain ⟨h1, h2, h3⟩ := borrow_lt a[i] y da hy0 hlt
        rw [if_pos hlt, Option.bind_some, h1]
        have hz : rd (out.set i (a[i] + 1000000000)) (i : Int) = a[i] + 1000000000 := by rw [rd_nat _ i (by simpa using hio)]; simp
        rw [hz, List.set_set, h2]
        exact store _ 1 h3 (Nat.le_refl _) (by omega)
      · obtain ⟨h2, h3⟩ := borrow_ge a[i] y da hy0 hlt
        rw [if_neg hlt, h2]
        exact store _ 0 h3 (Nat.zero_le _) (by omega)
    simp only [exact_nat_minus.l0]
    rw [if_pos (by omega), wr_1 i (by omega), Int.toNat_natCast]
    by_cases hb1 : i < b.length
    · have hd2 := dg_rd hb i
      rw [if_pos (by omega)] at hd2
      have e9 : ((c : Int) + (dg b i : Int)) = ((c + dg b i : Nat) : Int) := by omega
      rw [if_pos (by omega), if_pos (by omega), if_pos (by omega), hd2, e9, mod_y _ hy0]
      exact key _ rfl
    · have hd2 := dg_end b i (by omega)
      rw [if_neg (by omega), if_pos (by omega), if_pos (by omega)]
      exact key (c : Int) (by rw [hd2]; omega)
theorem minus_f (a b : List Int) (ha : Nrm a) (hb : Nrm b) (hla : a.length ≤ 1000000) (hle : V b ≤ V a) (k : Nat) (hk : 2 * a.length + 5 ≤ k) :
    ∃ r, exact_nat_minus.f k a b = some r ∧ V r = V a - V b ∧ Nrm r ∧ r.length ≤ a.length := by
  have hlen : b.length ≤ a.length := by
    rcases Nat.lt_or_ge a.length b.length with h | h
    · have := V_len_lt ha hb h; omega
    · exact h
  obtain ⟨o, e, h1, h2, h3, h4⟩ := minus_l0 a b ha.1 hb.1 hla a.length k 0 0 a (by omega) (by omega) rfl ha.1 rfl (by omega) (by simp [V])
  unfold exact_nat_minus.f exact_nat_uint32.f
  rw [if_pos (by omega), Option.bind_some]
  refine ⟨trimL o, h1, ?_, trim_nrm h2, by have := trim_len o; omega⟩
  rw [trim_V]
  rw [List.take_of_length_le hlen] at h4
  have h5 := V_lt h2
  rw [h3] at h5
  rcases Nat.eq_zero_or_pos e with h0 | h0
  · rw [h0] at h4; omega
  · have : Bs ^ a.length ≤ e * Bs ^ a.length := Nat.le_mul_of_pos_left _ h0
    omega
end Go.Proofs.YtckfdhnimmaeiaaGreatDoor.Pure
namespace Go.Proofs.YtckfdhnimmaeiaaGreatDoor.Pure
open Go.RowKit Go.Proofs.YtckfdhnimmaeiaaGreatDoor.Pr Go.Proofs.YtckfdhnimmaeiaaGreatDoorW.PrintWords Go.Proofs.YtckfdhnimmaeiaaGreatDoorW.PrintLast
theorem u64_nat (n : Nat) (h : n < 18446744073709551616) : IntKind.u64.wrap (n : Int) = (n : Int) := by
  show (n : Int) % 18446744073709551616 = _
  omega
theorem mul_le (x y : Nat) (hx : x < 1000000000) (hy : y < 1000000000) : x * y ≤ 999999998000000001 := by
  have := Nat.mul_le_mul (Nat.le_of_lt_succ hx) (Nat.le_of_lt_succ hy)
  exact this
/-- One product of digits. -/
theorem mul_digit (x y o c : Nat) (hx : x < 1000000000) (hy : y < 1000000000) (ho : o < 1000000000) (hc : c < 1000000000) :
    ∃ n m q : Nat, IntKind.u64.wrap (IntKind.u64.wrap (IntKind.u64.wrap (IntKind.u64.wrap (x : Int) * IntKind.u64.wrap (y : Int)) + IntKind.u64.wrap (o : Int)) + (c : Int)) = (n : Int) ∧
      Int.tmod (n : Int) 1000000000 % 4294967296 = (m : Int) ∧ IntKind.u64.wrap (Int.tdiv (n : Int) 1000000000) = (q : Int) ∧ x * y + o + c = m + Bs * q ∧ m < 1000000000 ∧ q < 1000000000 := by
  have hp := mul_le x y hx hy
  obtain ⟨p, hpe⟩ : ∃ p, p = x * y := ⟨_, rfl⟩
  have e0 : (x : Int) * (y : Int) = (p : Int) := by rw [hpe]; exact (Int.natCast_mul x y).symm
  rw [← hpe] at hp ⊢
  rw [u64_nat x (by omega), u64_nat y (by omega), e0, u64_nat p (by omega), u64_nat o (by omega)]
  have e1 : (p : Int) + (o : Int) = ((p + o : Nat) : Int) := by omega
  rw [e1, u64_nat (p + o) (by omega)]
  have e2 : ((p + o : Nat) : Int) + (c : Int) = ((p + o + c : Nat) : Int) := by omega
  rw [e2, u64_nat (p + o + c) (by omega)]
  refine ⟨p + o + c, (p + o + c) % 1000000000, (p + o + c) / 1000000000, rfl, ?_, ?_, by rw [Bs_eq]; omega, by omega, by omega⟩
  · rw [Int.tmod_eq_emod_of_nonneg (by omega)]
    omega
  · rw [Int.tdiv_eq_ediv_of_nonneg (by omega)]
    have : ((p + o + c : Nat) : Int) / 1000000000 = (((p + o + c) / 1000000000 : Nat) : Int) := by omega
    rw [this, u64_nat _ (by omega)]
theorem times_sum (P VO VO1 o c x y T m q : Nat) (h1 : VO1 + P * o = VO + P * m) (h2 : x * y + o + c = m + Bs * q) : VO1 + P * Bs * (q + x * T) = VO + P * (c + x * (y + Bs * T)) := by
  have e1 := congrArg (fun z => P * z) h2
  simp only [Nat.mul_add] at e1
  have e2 : P * Bs * (q + x * T) = P * (Bs * q) + P * (x * (Bs * T)) := by
    rw [Nat.mul_add, Nat.mul_assoc, Nat.mul_assoc, Nat.mul_left_comm Bs x T]
  have e3 : P * (c + x * (y + Bs * T)) = P * c + (P * (x * y) + P * (x * (Bs * T))) := by rw [Nat.mul_add, Nat.mul_add, Nat.mul_add]
  rw [e2, e3]
  omega
theorem dg_set (l : List Int) (i t : Nat) (d : Int) (h : t ≠ i) : dg (l.set i d) t = dg l t := by
  unfold dg
  rw [List.getD_eq_getElem?_getD, List.getD_eq_getElem?_getD, List.getElem?_set_ne (fun e => h e.symm)]
theorem wr_a (i j : Nat) (h : i + j ≤ 8000000) : wrap64 ((i : Int) + (j : Int)) = ((i + j : Nat) : Int) := by unfold wrap64; omega
theorem mod32 (c : Nat) (h : c < 1000000000) : ((c : Int)) % 4294967296 = (c : Int) := by omega
theorem times_l1 (a b : List Int) (hb : Dig b) (hla : a.length ≤ 1000000) (hlb : b.length ≤ 1000000) (i x : Nat) (hi : i < a.length) (hx : x < 1000000000) (d : Nat) : ∀ (k j c : Nat) (out : List Int),
    j + d = b.length → out.length = a.length + b.length → Dig out → c < 1000000000 → dg out (i + b.length) = 0 →
    ∃ o : List Int, exact_nat_times.l1 (d + 1 + k) b out (i : Int) (x : Int) (c : Int) a (a.length : Int) (i : Int) b (b.length : Int) (j : Int) = exact_nat_times.l0 k b o a (a.length : Int) ((i + 1 : Nat) : Int) ∧
      Dig o ∧ o.length = out.length ∧ V o = V out + Bs ^ (i + j) * (c + x * V (b.drop j)) ∧ ∀ t, i + b.length < t → dg o t = dg out t := by
  induction d with
  | zero =>
    intro k j c out hj hol hdo hc hz
    obtain rfl : j = b.length := by omega
    have hlt : i + b.length < out.length := by omega
    rw [show 0 + 1 + k = k + 1 by omega]
    simp only [exact_nat_times.l1]
    rw [if_neg (by omega), wr_a i b.length (by omega), if_pos (by omega), if_pos (by omega), Int.toNat_natCast, wr_1 i (by omega), mod32 c hc]
    refine ⟨out.set (i + b.length) (c : Int), rfl, hdo.set _ _ (by omega), by simp, ?_, fun t ht => dg_set _ _ _ _ (by omega)⟩
    have := V_set out (i + b.length) (c : Int) hlt
    rw [hz, Int.toNat_natCast] at this
    rw [List.drop_length]
    simp only [V, Nat.mul_zero, Nat.add_zero] at this ⊢
    exact this
  | succ d ih =>
    intro k j c out hj hol hdo hc hz
    have hjb : j < b.length := by omega
    have hlt : i + j < out.length := by omega
    have hy : rd b (j : Int) = (dg b j : Int) := by
      have := dg_rd hb j
      rw [if_pos (by omega)] at this
      exact this
    have hoo : rd out ((i + j : Nat) : Int) = (dg out (i + j) : Int) := by
      have := dg_rd hdo (i + j)
      rw [if_pos (by omega)] at this
      exact this
    obtain ⟨n, m, q, e1, e2, e3, e4, e5, e6⟩ := mul_digit x (dg b j) (dg out (i + j)) c hx (dg_lt hb j) (dg_lt hdo _) hc
    have hset := V_set out (i + j) (m : Int) hlt
    rw [Int.toNat_natCast] at hset
    rw [show d + 1 + 1 + k = (d + 1 + k) + 1 by omega]
    simp only [exact_nat_times.l1]
    rw [if_pos (by omega), if_pos (by omega), if_pos (by omega), wr_a i j (by omega), if_pos (by omega), if_pos (by omega), Int.toNat_natCast, hy, hoo, e1, e2, e3, wr_1 j (by omega)]
    obtain ⟨o, h1, h2, h3, h4, h5⟩ := ih k (j + 1) q (out.set (i + j) (m : Int)) (by omega) (by simpa using hol) (hdo.set _ _ (by omega)) e6 (by rw [dg_set _ _ _ _ (by omega)]; exact hz)
    refine ⟨o, h1, h2, by simpa using h3, ?_, fun t ht => by rw [h5 t ht, dg_set _ _ _ _ (by omega)]⟩
    rw [h4, V_drop b j, show i + (j + 1) = (i + j) + 1 by omega, Nat.pow_succ]
    exact times_sum _ _ _ _ c x _ _ m q hset e4
theorem times_l0 (a b : List Int) (ha : Dig a) (hb : Dig b) (hla : a.length ≤ 1000000) (hlb : b.length ≤ 1000000) (d : Nat) : ∀ (k i : Nat) (out : List Int),
    i + d = a.length → d * (b.length + 2) + a.length + b.length + 5 ≤ k → out.length = a.length + b.length → Dig out → V out = V (a.take i) * V b → (∀ t, i + b.length ≤ t → dg out t = 0) →
    ∃ o, exact_nat_times.l0 k b out a (a.length : Int) (i : Int) = some (trimL o) ∧ Dig o ∧ o.length = a.length + b.length ∧ V o = V a * V b := by
  induction d with
  | zero =>
    intro k i out hi hk hol hdo hv _
    obtain ⟨k, rfl⟩ : ∃ q, k = q + 1 := ⟨k - 1, by omega⟩
    obtain rfl : i = a.length := by omega
    simp only [exact_nat_times.l0]
    rw [if_neg (by omega), trim_f out k (by omega) (by omega)]
    refine ⟨out, rfl, hdo, hol, ?_⟩
    rw [hv, List.take_length]
  | succ d ih =>
    intro k i out hi hk hol hdo hv hz
    have hia : i < a.length := by omega
    have hx : rd a (i : Int) = (dg a i : Int) := by
      have := dg_rd ha i
      rw [if_pos (by omega)] at this
      exact this
    rw [Nat.succ_mul] at hk
    obtain ⟨K, hK⟩ : ∃ K, k = (b.length + 1 + K) + 1 := ⟨k - (b.length + 2), by omega⟩
    rw [hK]
    obtain ⟨o, h1, h2, h3, h4, h5⟩ := times_l1 a b hb hla hlb i (dg a i) hia (dg_lt ha i) b.length K 0 0 out (by omega) hol hdo (by omega) (hz _ (Nat.le_refl _))
    simp only [exact_nat_times.l0]
    rw [if_pos (by omega), if_pos (by omega), if_pos (by omega), hx]
    rw [show ((0 : Nat) : Int) = 0 from rfl] at h1
    rw [h1]
    refine ih K (i + 1) o (by omega) (by omega) (by rw [h3, hol]) h2 ?_ ?_
    · rw [h4, hv, V_takeS, List.drop_zero, Nat.add_zero, Nat.zero_add, Nat.add_mul, Nat.mul_assoc]
    · intro t ht
      rw [h5 t (by omega), hz t (by omega)]
theorem times_f (a b : List Int) (ha : Dig a) (hb : Dig b) (hla : a.length ≤ 1000000) (hlb : b.length ≤ 1000000) (k : Nat) (hk : a.length * (b.length + 2) + a.length + b.length + 5 ≤ k) :
    ∃ r, exact_nat_times.f k a b = some r ∧ V r = V a * V b ∧ Nrm r ∧ r.length ≤ a.length + b.length := by
  unfold exact_nat_times.f
  rw [wr_a a.length b.length (by omega), if_pos (by omega), Int.toNat_natCast, if_pos (by omega)]
  obtain ⟨o, h1, h2, h3, h4⟩ := times_l0 a b ha hb hla hlb a.length k 0 (List.replicate (a.length + b.length) 0) (by omega) hk (by simp) (fun x hx => by rw [(List.mem_replicate.1 hx).2]; decide) (by rw [V_zeros]; simp [V])
    (fun t _ => by
      rcases Nat.lt_or_ge t (a.length + b.length) with h | h
      · rw [dg_at _ _ (by simpa using h)]; simp
      · exact dg_end _ _ (by simpa using h))
  refine ⟨trimL o, h1, by rw [trim_V, h4], trim_nrm h2, by have := trim_len o; omega⟩
end Go.Proofs.YtckfdhnimmaeiaaGreatDoor.Pure
namespace Go.Proofs.YtckfdhnimmaeiaaGreatDoor.Pure
open Go.RowKit Go.Proofs.YtckfdhnimmaeiaaGreatDoor.Pr Go.Proofs.YtckfdhnimmaeiaaGreatDoorW.PrintWords Go.Proofs.YtckfdhnimmaeiaaGreatDoorW.PrintLast
theorem trim_one (m : Nat) : trimL [(m : Int)] = if m = 0 then [] else [(m : Int)] := by
  have := trim_snoc [] (m : Int)
  rw [List.nil_append] at this
  rw [this]
  by_cases h : m = 0
  · rw [if_pos (by omega), if_pos h, trim_nil]
  · rw [if_neg (by omega), if_neg h]
theorem V_one (m : Nat) : V [(m : Int)] = m := by simp [V]
theorem bs_pos : 0 < Bs := by rw [Bs_eq]; decide
/-- The search between two bounds. -/
theorem mid_ok (low top : Nat) (h : low < top) (ht : top < 1000000000) :
    ∃ m : Nat, IntKind.u64.wrap (Int.tdiv (IntKind.u64.wrap (IntKind.u64.wrap ((low : Int) + (top : Int)) + 1)) 2) = (m : Int) ∧ (m : Int) % 4294967296 = (m : Int) ∧ IntKind.u64.wrap ((m : Int) - 1) = ((m - 1 : Nat) : Int) ∧ low < m ∧ m ≤ top ∧ m < 1000000000 := by
  refine ⟨(low + top + 1) / 2, ?_, by omega, ?_, by omega, by omega, by omega⟩
  · have e1 : (low : Int) + (top : Int) = ((low + top : Nat) : Int) := by omega
    rw [e1, u64_nat _ (by omega)]
    have e2 : ((low + top : Nat) : Int) + 1 = ((low + top + 1 : Nat) : Int) := by omega
    rw [e2, u64_nat _ (by omega), Int.tdiv_eq_ediv_of_nonneg (by omega)]
    have e3 : ((low + top + 1 : Nat) : Int) / 2 = (((low + top + 1) / 2 : Nat) : Int) := by omega
    rw [e3, u64_nat _ (by omega)]
  · have e1 : ((((low + top + 1) / 2 : Nat) : Int)) - 1 = (((low + top + 1) / 2 - 1 : Nat) : Int) := by omega
    rw [e1, u64_nat _ (by omega)]
theorem digit_l1 (r b : List Int) (hr : Nrm r) (hb : Nrm b) (hlr : r.length ≤ 900000) (hlb : b.length ≤ 900000) (q : Nat) (hq : q = V r / V b) (hbp : 0 < V b) (n : Nat) : ∀ (k low top : Nat),
    top ≤ low + n → n + 4 * b.length + 20 ≤ k → low ≤ q → q ≤ top → top < 1000000000 → exact_digit.l1 k r b (low : Int) (top : Int) = some (q : Int) := by
  induction n with
  | zero =>
    intro k low top h1 hk h2 h3 h4
    obtain ⟨k, rfl⟩ : ∃ z, k = z + 1 := ⟨k - 1, by omega⟩
    simp only [exact_digit.l1]
    rw [if_neg (by omega)]
    congr 1; omega
  | succ n ih =>
    intro k low top h1 hk h2 h3 h4
    obtain ⟨k, rfl⟩ : ∃ z, k = z + 1 := ⟨k - 1, by omega⟩
    simp only [exact_digit.l1]
    by_cases hlt : low < top
    · obtain ⟨m, e1, e2, e3, e4, e5, e6⟩ := mid_ok low top hlt h4
      rw [if_pos (by omega), e1, e2, e3]
      have ht : trimL [(m : Int)] = [(m : Int)] := by rw [trim_one, if_neg (by omega)]
      rw [trim_f [(m : Int)] k (by simp; omega) (by simp), ht, Option.bind_some]
      obtain ⟨p, p1, p2, p3, p4⟩ := times_f b [(m : Int)] hb.1 (Dig.one (by omega)) (by omega) (by simp) k (by simp only [List.length_singleton]; omega)
      rw [p1, Option.bind_some]
      rw [List.length_singleton] at p4
      obtain ⟨c, c1, c2, c3⟩ := compare_f p r p3 hr (by omega) (by omega) k (by omega)
      rw [c1, Option.bind_some]
      rw [p2, V_one] at c2 c3
      have hm : c ≤ 0 ↔ m ≤ q := by
        rw [hq, Nat.le_div_iff_mul_le hbp, Nat.mul_comm m]
        constructor
        · intro h
          rcases Int.lt_or_eq_of_le h with h | h
          · exact Nat.le_of_lt (c3.1 h)
          · exact Nat.le_of_eq (c2.1 h)
        · intro h
          rcases Nat.lt_or_eq_of_le h with h | h
          · have := c3.2 h; omega
          · have := c2.2 h; omega
      by_cases hc : c ≤ 0
      · rw [if_pos hc]
        exact ih k m top (by omega) (by omega) (hm.1 hc) h3 h4
      · rw [if_neg hc]
        have : ¬ m ≤ q := fun h => hc (hm.2 h)
        exact ih k low (m - 1) (by omega) (by omega) h2 (by omega) (by omega)
    · rw [if_neg (by omega)]
      congr 1; omega
theorem high_step (h x : Nat) (hh : h < 1000000000) (hx : x < 1000000000) : IntKind.u64.wrap (IntKind.u64.wrap ((h : Int) * 1000000000) + IntKind.u64.wrap (x : Int)) = ((x + Bs * h : Nat) : Int) := by
  have e1 : (h : Int) * 1000000000 = ((h * 1000000000 : Nat) : Int) := by omega
  rw [e1, u64_nat _ (by omega), u64_nat _ (by omega)]
  have e2 : ((h * 1000000000 : Nat) : Int) + (x : Int) = ((x + Bs * h : Nat) : Int) := by rw [Bs_eq]; omega
  rw [e2, u64_nat _ (by rw [Bs_eq]; omega)]
theorem wr_m1 (n : Nat) (h : n ≤ 4000000) : wrap64 ((n : Int) - 1) = (n : Int) - 1 := by unfold wrap64; omega
theorem first_digit (r : List Int) (hr : Dig r) (i : Nat) (h : r.length ≤ i + 1) : V (r.drop i) < 1000000000 := by
  have := V_lt (hr.drop i)
  have h2 : (r.drop i).length ≤ 1 := by rw [List.length_drop]; omega
  have h3 : Bs ^ (r.drop i).length ≤ Bs ^ 1 := Nat.pow_le_pow_right bs_pos h2
  rw [Nat.pow_one] at h3
  have hB := Bs_eq
  omega
theorem digit_l0 (r b : List Int) (hr : Dig r) (hlr : r.length ≤ 900000) (kk : Nat) (hk2 : r.length ≤ kk + 2) (d : Nat) : ∀ k : Nat, kk + d ≤ r.length →
    exact_digit.l0 (d + 1 + k) r b (kk : Int) ((V (r.drop (kk + d)) : Nat) : Int) (((kk + d : Nat) : Int) - 1) = exact_digit.l0 (1 + k) r b (kk : Int) ((V (r.drop kk) : Nat) : Int) ((kk : Int) - 1) := by
  induction d with
  | zero => intro k _; rfl
  | succ d ih =>
    intro k h
    have hx : rd r ((kk + d : Nat) : Int) = (dg r (kk + d) : Int) := by
      have := dg_rd hr (kk + d)
      rw [if_pos (by omega)] at this
      exact this
    rw [show d + 1 + 1 + k = (d + 1 + k) + 1 by omega]
    have e : (((kk + (d + 1) : Nat) : Int) - 1) = ((kk + d : Nat) : Int) := by omega
    rw [e]
    conv => lhs; simp only [exact_digit.l0]
    rw [if_pos (by omega), if_pos (by omega), if_pos (by omega), hx, high_step _ _ (first_digit r hr (kk + (d + 1)) (by omega)) (dg_lt hr _), wr_m1 _ (by omega)]
    rw [show kk + (d + 1) = kk + d + 1 by omega, ← V_drop]
    exact ih k (by omega)
theorem wrap_div (H t : Nat) (hH : H < 1000000000000000000) (ht : 0 < t) (ht2 : t < 1000000000) :
    IntKind.u64.wrap (t : Int) = (t : Int) ∧ IntKind.u64.wrap ((t : Int) + 1) = ((t + 1 : Nat) : Int) ∧ IntKind.u64.wrap (Int.tdiv (H : Int) ((t + 1 : Nat) : Int)) = ((H / (t + 1) : Nat) : Int) ∧ IntKind.u64.wrap (Int.tdiv (H : Int) (t : Int)) = ((H / t : Nat) : Int) := by
  have d1 : H / (t + 1) ≤ H := Nat.div_le_self _ _
  have d2 : H / t ≤ H := Nat.div_le_self _ _
  refine ⟨u64_nat _ (by omega), ?_, ?_, ?_⟩
  · have : (t : Int) + 1 = ((t + 1 : Nat) : Int) := by omega
    rw [this, u64_nat _ (by omega)]
  · rw [Int.tdiv_eq_ediv_of_nonneg (by omega), ← Int.natCast_ediv, u64_nat _ (by omega)]
  · rw [Int.tdiv_eq_ediv_of_nonneg (by omega), ← Int.natCast_ediv, u64_nat _ (by omega)]
theorem mn_nat (x : Nat) : mn (x : Int) 999999999 = ((min x 999999999 : Nat) : Int) := by
  unfold mn
  rw [Nat.min_def]
  split <;> split <;> omega
/-- The digit of a quotient. -/
theorem digit_f (r b : List Int) (hr : Nrm r) (hb : Nrm b) (h0 : b ≠ []) (hlr : r.length ≤ 900000) (hlb : b.length ≤ 800000) (hlt : V r < V b * Bs) (k : Nat) (hk : 1000000000 + 5 * b.length + 100 ≤ k) :
    exact_digit.f k r b = some ((V r / V b : Nat) : Int) := by
  have hbl : 1 ≤ b.length := List.length_pos_iff.2 h0
  have hbp : 0 < V b := by
    rcases Nat.eq_zero_or_pos (V b) with h | h
    · exact absurd (hb.zero h) h0
    · exact h
  obtain ⟨kk, hkk⟩ : ∃ kk, b.length = kk + 1 := ⟨b.length - 1, by omega⟩
  have hrl : r.length ≤ kk + 2 := by
    rcases Nat.lt_or_ge (kk + 2) r.length with h | h
    · exfalso
      have g1 := V_pos_len hr (by intro e; rw [e] at h; simp at h)
      have g2 := V_lt hb.1
      rw [hkk] at g2
      have g3 : Bs ^ (kk + 2) ≤ Bs ^ (r.length - 1) := Nat.pow_le_pow_right bs_pos (by omega)
      have g4 : V b * Bs ≤ Bs ^ (kk + 1) * Bs := Nat.mul_le_mul_right _ (Nat.le_of_lt g2)
      rw [show kk + 2 = (kk + 1) + 1 by omega, Nat.pow_succ] at g3
      omega
    · exact h
  unfold exact_digit.f
  obtain ⟨c, c1, c2, c3⟩ := compare_f r b hr hb (by omega) (by omega) k (by omega)
  rw [c1, Option.bind_some]
  by_cases hc : c < 0
  · rw [if_pos hc, Nat.div_eq_of_lt (c3.1 hc)]; rfl
  · rw [if_neg hc]
    have hge : V b ≤ V r := by
      rcases Nat.lt_or_ge (V r) (V b) with h | h
      · exact absurd (c3.2 h) hc
      · exact h
    have hrl2 : kk + 1 ≤ r.length := by
      rcases Nat.lt_or_ge r.length (kk + 1) with h | h
      · have := V_len_lt hr hb (by omega); omega
      · exact h
    obtain ⟨d, hd⟩ : ∃ d, r.length = kk + d := ⟨r.length - kk, by omega⟩
    have hd2 : d ≤ 2 := by omega
    obtain ⟨K, hK⟩ : ∃ K, k = d + 1 + (K + 1) := ⟨k - d - 2, by omega⟩
    have hl0 := digit_l0 r b hr.1 hlr kk hrl d (K + 1) (by omega)
    rw [← hd, List.drop_length] at hl0
    have e1 : wrap64 ((b.length : Int) - 1) = (kk : Int) := by rw [wr_m1 _ (by omega)]; omega
    have e2 : wrap64 ((r.length : Int) - 1) = (r.length : Int) - 1 := wr_m1 _ (by omega)
    rw [e1, e2, hK]
    rw [show ((V ([] : List Int) : Nat) : Int) = 0 from rfl] at hl0
    rw [hl0, show 1 + (K + 1) = (K + 1) + 1 by omega]
    -- the leading digits
    obtain ⟨H, hH⟩ : ∃ H, H = V (r.drop kk) := ⟨_, rfl⟩
    obtain ⟨t, ht⟩ : ∃ t, t = dg b kk := ⟨_, rfl⟩
    have htp : t ≠ 0 := by
      have := last_dg hb h0
      rw [hkk, Nat.add_sub_cancel, ← ht] at this
      exact this
    have htl : t < 1000000000 := by rw [ht]; exact dg_lt hb.1 kk
    have hHl : H < 1000000000000000000 := by
      have g1 := V_lt (hr.1.drop kk)
      have g2 : (r.drop kk).length ≤ 2 := by rw [List.length_drop]; omega
      have g3 : Bs ^ (r.drop kk).length ≤ Bs ^ 2 := Nat.pow_le_pow_right bs_pos g2
      rw [← hH] at g1
      have g4 : Bs ^ 2 = 1000000000000000000 := by rw [Bs_eq]
      omega
    have hrd : rd b (kk : Int) = (t : Int) := by
      have := dg_rd hb.1 kk
      rw [if_pos (by omega), ← ht] at this
      exact this
    rw [← hH]
    obtain ⟨w1, w2, w3, w4⟩ := wrap_div H t hHl (by omega) htl
    simp only [exact_digit.l0]
    rw [if_neg (by omega), if_pos (by omega), if_pos (by omega), hrd, w1, w2, if_neg (by omega), if_neg (by omega), w3, w4, mn_nat]
    -- the bounds
    have hP : 0 < Bs ^ kk := Nat.pow_pos bs_pos
    have vb := V_two b kk
    have vb2 : V (b.drop kk) = t := by
      rw [V_drop, List.drop_of_length_le (by omega), ← ht]; simp [V]
    have vb3 := V_lt (hb.1.take kk)
    rw [List.length_take, Nat.min_eq_left (by omega)] at vb3
    have vr := V_two r kk
    have vr3 := V_lt (hr.1.take kk)
    rw [List.length_take, Nat.min_eq_left (by omega)] at vr3
    rw [vb2] at vb
    rw [← hH] at vr
    obtain ⟨P, hPe⟩ : ∃ P, P = Bs ^ kk := ⟨_, rfl⟩
    rw [← hPe] at hP vb vb3 vr vr3
    have hq1 : H / (t + 1) ≤ V r / V b := by
      rw [Nat.le_div_iff_mul_le hbp]
      have g1 : V b ≤ P * (t + 1) := by rw [vb, Nat.mul_add]; omega
      have g2 : H / (t + 1) * V b ≤ H / (t + 1) * (P * (t + 1)) := Nat.mul_le_mul_left _ g1
      have g3 : H / (t + 1) * (P * (t + 1)) = P * (H / (t + 1) * (t + 1)) := by rw [Nat.mul_left_comm]
      have g4 : P * (H / (t + 1) * (t + 1)) ≤ P * H := Nat.mul_le_mul_left _ (Nat.div_mul_le_self _ _)
      omega
    have hq2 : V r / V b ≤ H / t := by
      rw [Nat.le_div_iff_mul_le (by omega)]
      have g1 : V r / V b * V b ≤ V r := Nat.div_mul_le_self _ _
      have g2 : V r / V b * (P * t) ≤ V r / V b * V b := Nat.mul_le_mul_left _ (by rw [vb]; omega)
      have g3 : P * (V r / V b * t) < P * (H + 1) := by
        rw [Nat.mul_left_comm P, Nat.mul_add]
        omega
      have := Nat.lt_of_mul_lt_mul_left g3
      omega
    have hq3 : V r / V b < Bs := by
      rw [Nat.div_lt_iff_lt_mul hbp, Nat.mul_comm]; exact hlt
    rw [Bs_eq] at hq3
    refine digit_l1 r b hr hb hlr (by omega) (V r / V b) rfl hbp 1000000000 _ _ _ ?_ ?_ hq1 ?_ ?_
    · have h1 : min (H / t) 999999999 ≤ 999999999 := Nat.min_le_right _ _
      exact Nat.le_trans h1 (Nat.le_trans (by decide) (Nat.le_add_left _ _))
    · omega
    · rw [Nat.le_min]; exact ⟨hq2, by omega⟩
    · have : min (H / t) 999999999 ≤ 999999999 := Nat.min_le_right _ _
      omega
end Go.Proofs.YtckfdhnimmaeiaaGreatDoor.Pure
namespace Go.Proofs.YtckfdhnimmaeiaaGreatDoor.Pure
open Go.RowKit Go.Proofs.YtckfdhnimmaeiaaGreatDoor.Pr Go.Proofs.YtckfdhnimmaeiaaGreatDoorW.PrintWords Go.Proofs.YtckfdhnimmaeiaaGreatDoorW.PrintLast
theorem V_cons_nat (x : Nat) (r : List Int) : V ((x : Int) :: r) = x + Bs * V r := by simp [V]
theorem len_of_lt {r b : List Int} (hr : Nrm r) (hb : Nrm b) (h : V r < V b) : r.length ≤ b.length := by
  rcases Nat.lt_or_ge b.length r.length with h1 | h1
  · have := V_len_lt hb hr h1; omega
  · exact h1
theorem step_lt (x R Q : Nat) (hx : x < 1000000000) (hR : R < Q) : x + Bs * R < Q * Bs := by
  have h1 : Bs * (R + 1) ≤ Bs * Q := Nat.mul_le_mul_left _ hR
  have h2 : Bs = 1000000000 := rfl
  rw [Nat.mul_comm Q]
  rw [Nat.mul_add] at h1
  omega
theorem step_sum (x R Q A Bv T qd : Nat) (hT : T = x + Bs * R) (hA : Q * Bv + R = A) (hle : Bv * qd ≤ T) : (qd + Bs * Q) * Bv + (T - Bv * qd) = x + Bs * A := by
  have e1 : (qd + Bs * Q) * Bv = Bv * qd + Bs * (Q * Bv) := by rw [Nat.add_mul, Nat.mul_assoc, Nat.mul_comm qd]
  rw [e1, ← hA, Nat.mul_add]
  omega
theorem divide_l0 (a b : List Int) (ha : Dig a) (hb : Nrm b) (h0 : b ≠ []) (hla : a.length ≤ 700000) (hlb : b.length ≤ 700000) (i : Nat) : ∀ (k : Nat) (q r : List Int),
    i ≤ a.length → i + 1000000000 + a.length + 10 * b.length + 200 ≤ k → Dig q → q.length = a.length → Nrm r → V r < V b → V (q.drop i) * V b + V r = V (a.drop i) →
    ∃ q' r', exact_divide.l0 k a b q r ((i : Int) - 1) = some (q', r') ∧ V q' * V b + V r' = V a ∧ V r' < V b ∧ Nrm q' ∧ Nrm r' ∧ q'.length ≤ a.length := by
  induction i with
  | zero =>
    intro k q r hi hk hq hql hr hlt hv
    obtain ⟨k, rfl⟩ : ∃ z, k = z + 1 := ⟨k - 1, by omega⟩
    simp only [exact_divide.l0]
    rw [if_neg (by omega), trim_f q k (by omega) (by omega), Option.bind_some]
    refine ⟨trimL q, r, rfl, ?_, hlt, trim_nrm hq, hr, by have := trim_len q; omega⟩
    rw [trim_V]
    rw [List.drop_zero, List.drop_zero] at hv
    exact hv
  | succ i ih =>
    intro k q r hi hk hq hql hr hlt hv
    obtain ⟨k, rfl⟩ : ∃ z, k = z + 1 := ⟨k - 1, by omega⟩
    have hrl := len_of_lt hr hb hlt
    have hx := dg_lt ha i
    have hrd : rd a (i : Int) = (dg a i : Int) := by
      have := dg_rd ha i
      rw [if_pos (by omega)] at this
      exact this
    have e : (((i + 1 : Nat) : Int) - 1) = (i : Int) := by omega
    rw [e]
    simp only [exact_divide.l0]
    rw [if_pos (by omega), if_pos (by omega), if_pos (by omega), hrd, Option.bind_some]
    have hdig : Dig ((dg a i : Int) :: r) := fun z hz => by
      rcases List.mem_cons.1 hz with rfl | hz
      · omega
      · exact hr.1 z hz
    have hcons : [(dg a i : Int)] ++ r = (dg a i : Int) :: r := rfl
    have htl := trim_len ((dg a i : Int) :: r)
    rw [List.length_cons] at htl
    rw [if_pos (by simp only [List.length_singleton]; omega), hcons, trim_f ((dg a i : Int) :: r) k (by rw [List.length_cons]; omega) (by rw [List.length_cons]; omega), Option.bind_some]
    have hT : V (trimL ((dg a i : Int) :: r)) = dg a i + Bs * V r := by rw [trim_V, V_cons_nat]
    have hTn : Nrm (trimL ((dg a i : Int) :: r)) := trim_nrm hdig
    have hTlt : V (trimL ((dg a i : Int) :: r)) < V b * Bs := by rw [hT]; exact step_lt _ _ _ hx hlt
    generalize trimL ((dg a i : Int) :: r) = T at hT hTn hTlt htl ⊢
    have hbp : 0 < V b := by omega
    have hqd : V T / V b < Bs := by rw [Nat.div_lt_iff_lt_mul hbp, Nat.mul_comm]; exact hTlt
    rw [digit_f T b hTn hb h0 (by omega) (by omega) hTlt k (by omega), Option.bind_some]
    have hle : V b * (V T / V b) ≤ V T := Nat.mul_div_le _ _
    have hmod : V T - V b * (V T / V b) < V b := by
      have := Nat.mod_lt (V T) hbp
      have h2 := Nat.div_add_mod (V T) (V b)
      omega
    generalize V T / V b = qd at hqd hle hmod ⊢
    have hB : Bs = 1000000000 := rfl
    have hqs : Dig (q.set i (qd : Int)) := hq.set i _ (by omega)
    rw [if_pos (by omega), Option.bind_some, Int.toNat_natCast]
    have hrq : rd (q.set i (qd : Int)) (i : Int) = (qd : Int) := by
      rw [rd_nat _ i (by rw [List.length_set]; omega)]; simp
    rw [hrq, trim_f [(qd : Int)] k (by simp only [List.length_singleton]; omega) (by simp), Option.bind_some]
    have hone : Nrm (trimL [(qd : Int)]) := trim_nrm (Dig.one (by omega))
    have honel := trim_len [(qd : Int)]
    rw [List.length_singleton] at honel
    have honeV : V (trimL [(qd : Int)]) = qd := by rw [trim_V, V_one]
    generalize trimL [(qd : Int)] = D at hone honel honeV ⊢
    have hmul : b.length * (D.length + 2) ≤ b.length * 3 := Nat.mul_le_mul_left _ (by omega)
    obtain ⟨p, p1, p2, p3, p4⟩ := times_f b D hb.1 hone.1 (by omega) (by omega) k (by omega)
    rw [p1, Option.bind_some]
    rw [honeV] at p2
    obtain ⟨m, m1, m2, m3, m4⟩ := minus_f T p hTn p3 (by omega) (by rw [p2]; exact hle) k (by omega)
    rw [m1, Option.bind_some, wr_m1 i (by omega)]
    rw [p2] at m2
    refine ih k (q.set i (qd : Int)) m (by omega) (by omega) hqs (by rw [List.length_set]; exact hql) m3 (by rw [m2]; exact hmod) ?_
    have hd1 : V ((q.set i (qd : Int)).drop i) = qd + Bs * V (q.drop (i + 1)) := by
      rw [V_drop, List.drop_set_of_lt (by omega)]
      have : dg (q.set i (qd : Int)) i = qd := by rw [dg_at _ _ (by rw [List.length_set]; omega)]; simp
      rw [this]
    rw [hd1, m2, V_drop a i]
    exact step_sum _ _ _ _ _ _ _ hT hv hle
theorem divide_f (a b : List Int) (ha : Dig a) (hb : Nrm b) (h0 : b ≠ []) (hla : a.length ≤ 700000) (hlb : b.length ≤ 700000) (k : Nat) (hk : 1000000000 + 2 * a.length + 10 * b.length + 200 ≤ k) :
    ∃ q r, exact_divide.f k a b = some (q, r) ∧ V q = V a / V b ∧ V r = V a % V b ∧ Nrm q ∧ Nrm r ∧ q.length ≤ a.length ∧ r.length ≤ b.length := by
  have hbp : 0 < V b := by
    rcases Nat.eq_zero_or_pos (V b) with h | h
    · exact absurd (hb.zero h) h0
    · exact h
  unfold exact_divide.f
  rw [if_pos (by omega), Int.toNat_natCast, if_pos (by omega), wr_m1 _ (by omega)]
  obtain ⟨q, r, h1, h2, h3, h4, h5, h6⟩ := divide_l0 a b ha hb h0 hla hlb a.length k (List.replicate a.length 0) [] (Nat.le_refl _) (by omega) (fun x hx => by rw [(List.mem_replicate.1 hx).2]; decide) (by simp) Nrm.nil hbp (by rw [List.drop_length, List.drop_of_length_le (by simp)]; simp [V])
  have hdm : V a / V b = V q ∧ V a % V b = V r := (Nat.div_mod_unique hbp).2 ⟨by rw [Nat.mul_comm (V b)]; omega, h3⟩
  exact ⟨q, r, h1, hdm.1.symm, hdm.2.symm, h4, h5, h6, len_of_lt h5 hb h3⟩
theorem common_f (n : Nat) : ∀ (a b : List Int) (k : Nat), Nrm a → Nrm b → a.length ≤ 700000 → b.length ≤ 700000 → V b ≤ n → n + 1000000000 + 10000000 ≤ k →
    ∃ g, exact_common.f k a b = some g ∧ V g = Nat.gcd (V a) (V b) ∧ Nrm g ∧ g.length ≤ 700000 := by
  induction n with
  | zero =>
    intro a b k ha hb hla hlb hn hk
    obtain ⟨k, rfl⟩ : ∃ z, k = z + 1 := ⟨k - 1, by omega⟩
    have hb0 := hb.zero (by omega)
    subst hb0
    unfold exact_common.f
    simp only [exact_common.l0]
    refine ⟨a, rfl, ?_, ha, hla⟩
    show V a = Nat.gcd (V a) 0
    rw [Nat.gcd_zero_right]
  | succ n ih =>
    intro a b k ha hb hla hlb hn hk
    obtain ⟨k, rfl⟩ : ∃ z, k = z + 1 := ⟨k - 1, by omega⟩
    by_cases h0 : b = []
    · subst h0
      unfold exact_common.f
      simp only [exact_common.l0]
      refine ⟨a, rfl, ?_, ha, hla⟩
      show V a = Nat.gcd (V a) 0
      rw [Nat.gcd_zero_right]
    · obtain ⟨q, r, h1, h2, h3, h4, h5, h6, h7⟩ := divide_f a b ha.1 hb h0 hla hlb k (by omega)
      have hbp : 0 < V b := by
        rcases Nat.eq_zero_or_pos (V b) with h | h
        · exact absurd (hb.zero h) h0
        · exact h
      have hrlt : V r < V b := by rw [h3]; exact Nat.mod_lt _ hbp
      obtain ⟨g, g1, g2, g3, g4⟩ := ih b r k hb h5 hlb (by omega) (by omega) (by omega)
      unfold exact_common.f at g1 ⊢
      simp only [exact_common.l0]
      have hz : exact_nat_zero.f b = some false := by
        unfold exact_nat_zero.f
        have : b.length ≠ 0 := fun e => h0 (List.eq_nil_of_length_eq_zero e)
        congr 1
        exact beq_eq_false_iff_ne.2 (by omega)
      rw [hz, Option.bind_some, if_neg (by decide), h1, Option.bind_some]
      refine ⟨g, g1, ?_, g3, g4⟩
      rw [g2, h3, Nat.gcd_comm (V a), Nat.gcd_rec (V b) (V a), Nat.gcd_comm]
end Go.Proofs.YtckfdhnimmaeiaaGreatDoor.Pure
namespace Go.Proofs.YtckfdhnimmaeiaaGreatDoor.Pure
open Go.RowKit Go.Proofs.YtckfdhnimmaeiaaGreatDoor.Pr Go.Proofs.YtckfdhnimmaeiaaGreatDoorW.PrintWords Go.Proofs.YtckfdhnimmaeiaaGreatDoorW.PrintLast
/-- The bytes of a list. -/
abbrev B (l : List UInt8) : ByteArray := ⟨l.toArray⟩
theorem B_size (l : List UInt8) : (B l).size = l.length := by show l.toArray.size = _; simp
theorem B_data (l : List UInt8) : (B l).data.toList = l := rfl
theorem B_self (s : ByteArray) : B s.data.toList = s := rfl
theorem B_list (l : List UInt8) : (B l).toList = l := by rw [ByteArray.toList_eq]
theorem B_of {s : ByteArray} {l : List UInt8} (h : s.data.toList = l) : s = B l := by rw [← h]
theorem ex_drop (l : List UInt8) (a : Nat) : (B l).extract a (B l).size = B (l.drop a) := by
  refine B_of ?_
  rw [Lib.extract_data, B_size, B_data, List.take_of_length_le]
  rw [List.length_drop]; exact Nat.le_refl _
theorem ex_take (l : List UInt8) (a : Nat) : (B l).extract 0 a = B (l.take a) := by
  refine B_of ?_
  rw [Lib.extract_data, B_data, List.drop_zero]; rfl
def isD (c : UInt8) : Bool := decide (48 ≤ c.toNat ∧ c.toNat ≤ 57)
theorem isD_bounds (c : UInt8) : isD c = true ↔ 48 ≤ c.toNat ∧ c.toNat ≤ 57 := by unfold isD; simp
/-- All bytes are digits. -/
def Dec (l : List UInt8) : Prop := ∀ c ∈ l, isD c = true
def dvF (a : Nat) : List UInt8 → Nat
  | [] => a
  | c :: r => dvF (a * 10 + (c.toNat - 48)) r
/-- What digits spell. -/
def dv (l : List UInt8) : Nat := dvF 0 l
theorem lin_step (a x P D : Nat) : (a * 10 + x) * P + D = a * (P * 10) + (x * P + D) := by
  rw [Nat.add_mul, Nat.mul_assoc, Nat.mul_comm 10 P, Nat.add_assoc]
theorem dvF_lin (l : List UInt8) : ∀ a, dvF a l = a * 10 ^ l.length + dvF 0 l := by
  induction l with
  | nil => intro a; show a = a * 1 + 0; omega
  | cons c r ih =>
    intro a
    show dvF (a * 10 + (c.toNat - 48)) r = a * 10 ^ (r.length + 1) + dvF (0 * 10 + (c.toNat - 48)) r
    rw [ih (a * 10 + (c.toNat - 48)), ih (0 * 10 + (c.toNat - 48)), Nat.pow_succ, Nat.zero_mul, Nat.zero_add]
    exact lin_step _ _ _ _
theorem dv_app (a c : List UInt8) : dv (a ++ c) = dv a * 10 ^ c.length + dv c := by
  unfold dv
  have : ∀ (a c : List UInt8) (x : Nat), dvF x (a ++ c) = dvF (dvF x a) c := by
    intro a
    induction a with
    | nil => intro c x; rfl
    | cons d r ih => intro c x; exact ih c _
  rw [this, dvF_lin c (dvF 0 a)]
theorem lt_step (x D P : Nat) (hx : x ≤ 9) (h : D < P) : x * P + D < P * 10 := by
  have := Nat.mul_le_mul_right P hx
  omega
theorem dig9 (c : UInt8) (h : isD c = true) : c.toNat - 48 ≤ 9 := by
  have := (isD_bounds c).1 h
  omega
theorem dv_cons (c : UInt8) (r : List UInt8) : dv (c :: r) = (c.toNat - 48) * 10 ^ r.length + dv r := by
  unfold dv
  show dvF (0 * 10 + (c.toNat - 48)) r = _
  rw [Nat.zero_mul, Nat.zero_add, dvF_lin]
theorem dv_lt (l : List UInt8) (h : Dec l) : dv l < 10 ^ l.length := by
  induction l with
  | nil => exact Nat.one_pos
  | cons c r ih =>
    rw [dv_cons, List.length_cons, Nat.pow_succ]
    exact lt_step _ _ _ (dig9 c (h c List.mem_cons_self)) (ih fun d hd => h d (List.mem_cons_of_mem _ hd))
theorem decFrom_dv (l : List UInt8) (h : Dec l) : ∀ a, Lib.decFrom a l = some (dvF a l) := by
  induction l with
  | nil => intro a; rfl
  | cons c r ih =>
    intro a
    have hc := (isD_bounds c).1 (h c List.mem_cons_self)
    have : Lib.digitVal c = some (c.toNat - 48) := by unfold Lib.digitVal; rw [if_pos hc]
    simp only [Lib.decFrom, this]
    exact ih (fun d hd => h d (List.mem_cons_of_mem _ hd)) _
theorem atoi_dv (l : List UInt8) (h : Dec l) (h0 : l ≠ []) : Lib.atoi l = some ((dv l : Nat) : Int) := by
  cases l with
  | nil => exact absurd rfl h0
  | cons c r =>
    have hd := (isD_bounds c).1 (h c List.mem_cons_self)
    have n1 : (c == 45) = false := by
      refine beq_eq_false_iff_ne.2 fun e => ?_
      subst e; exact absurd hd.1 (by decide)
    have n2 : (c == 43) = false := by
      refine beq_eq_false_iff_ne.2 fun e => ?_
      subst e; exact absurd hd.1 (by decide)
    unfold Lib.atoi
    simp only [n1, n2, Bool.false_eq_true, if_false, Lib.decNat, List.isEmpty_cons, decFrom_dv (c :: r) h 0, Option.map_some]
    rfl
theorem mx_sub (n : Nat) (h : n ≤ 1000000) : mx 0 (wrap64 ((n : Int) - 9)) = ((n - 9 : Nat) : Int) := by
  have : wrap64 ((n : Int) - 9) = (n : Int) - 9 := by unfold wrap64; omega
  rw [this]
  unfold mx
  split <;> omega
theorem nine_len (l : List UInt8) : (l.drop (l.length - 9)).length ≤ 9 := by rw [List.length_drop]; omega
theorem nine_full (l : List UInt8) (h : 9 ≤ l.length) : (l.drop (l.length - 9)).length = 9 := by rw [List.length_drop]; omega
theorem dv_nine (l : List UInt8) : dv l = dv (l.take (l.length - 9)) * Bs + dv (l.drop (l.length - 9)) := by
  have := dv_app (l.take (l.length - 9)) (l.drop (l.length - 9))
  rw [List.take_append_drop] at this
  rw [this]
  by_cases h9 : 9 ≤ l.length
  · rw [nine_full l h9]; rfl
  · have : l.take (l.length - 9) = [] := by rw [show l.length - 9 = 0 by omega]; rfl
    rw [this]
    show 0 * _ + _ = 0 * _ + _
    rw [Nat.zero_mul, Nat.zero_mul]
theorem parse_sum (VA P n D : Nat) : VA + P * (n + Bs * 0) + P * Bs * D = VA + P * (D * Bs + n) := by
  rw [Nat.mul_zero, Nat.add_zero, Nat.mul_add, Nat.mul_assoc, Nat.mul_comm Bs D]
  omega
theorem v_none (acc : List Int) : V acc = V acc + Bs ^ acc.length * dv [] := by
  show V acc = V acc + Bs ^ acc.length * 0
  rw [Nat.mul_zero, Nat.add_zero]
theorem parse_l0 (N : Nat) : ∀ (l : List UInt8) (k : Nat) (acc : List Int), l.length ≤ N → l.length ≤ 1000000 → Dec l → Dig acc → acc.length + l.length ≤ 1000000 → N + acc.length + l.length + 5 ≤ k →
    ∃ o, exact_parse.l0 k (B l) acc = some (trimL o) ∧ V o = V acc + Bs ^ acc.length * dv l ∧ Dig o ∧ o.length ≤ acc.length + l.length := by
  induction N with
  | zero =>
    intro l k acc hl _ _ ha hal hk
    obtain ⟨k, rfl⟩ : ∃ z, k = z + 1 := ⟨k - 1, by omega⟩
    have : l = [] := List.eq_nil_of_length_eq_zero (by omega)
    subst this
    simp only [exact_parse.l0]
    rw [if_neg (by rw [B_size]; simp), trim_f acc k (by omega) (by omega)]
    exact ⟨acc, rfl, v_none acc, ha, by simp⟩
  | succ N ih =>
    intro l k acc hl hl2 hd ha hal hk
    obtain ⟨k, rfl⟩ : ∃ z, k = z + 1 := ⟨k - 1, by omega⟩
    simp only [exact_parse.l0]
    by_cases h0 : l = []
    · subst h0
      rw [if_neg (by rw [B_size]; simp), trim_f acc k (by omega) (by omega)]
      exact ⟨acc, rfl, v_none acc, ha, by simp⟩
    · have hpos : 0 < l.length := List.length_pos_iff.2 h0
      rw [if_pos (by rw [B_size]; omega), show ((B l).size : Int) = (l.length : Int) from by rw [B_size], mx_sub l.length hl2, if_pos (by omega), if_pos (by omega), Int.toNat_natCast, ex_drop, ex_take]
      have hcl := nine_len l
      have hcd : Dec (l.drop (l.length - 9)) := fun c hc => hd c (List.mem_of_mem_drop hc)
      have hcn : l.drop (l.length - 9) ≠ [] := fun e => by
        have := congrArg List.length e
        rw [List.length_drop] at this
        simp at this; omega
      have hat : strconv_Atoi.f (B (l.drop (l.length - 9))) = some (((dv (l.drop (l.length - 9)) : Nat) : Int), none) := by
        unfold strconv_Atoi.f
        rw [if_pos (by rw [B_size]; omega), B_data, atoi_dv _ hcd hcn]
      have hlt : dv (l.drop (l.length - 9)) < 1000000000 := Nat.lt_of_lt_of_le (dv_lt _ hcd) (Nat.pow_le_pow_right (by decide) hcl)
      have hval := dv_nine l
      have hmod : ((dv (l.drop (l.length - 9)) : Nat) : Int) % 4294967296 = ((dv (l.drop (l.length - 9)) : Nat) : Int) := by omega
      rw [hat, Option.bind_some]
      simp only
      rw [hmod, if_pos (by omega)]
      generalize dv (l.drop (l.length - 9)) = n at hlt hval ⊢
      have htl : (l.take (l.length - 9)).length = l.length - 9 := by rw [List.length_take]; omega
      obtain ⟨o, h1, h2, h3, h4⟩ := ih (l.take (l.length - 9)) k (acc ++ [(n : Int)]) (by omega) (by omega) (fun c hc => hd c (List.mem_of_mem_take hc)) (ha.app (Dig.one (by omega))) (by rw [List.length_append, List.length_singleton]; omega) (by rw [List.length_append, List.length_singleton]; omega)
      refine ⟨o, h1, ?_, h3, ?_⟩
      · rw [h2, V_app, List.length_append, List.length_singleton, Nat.pow_succ, hval]
        have : V [(n : Int)] = n + Bs * 0 := rfl
        rw [this]
        exact parse_sum _ _ _ _
      · rw [List.length_append, List.length_singleton] at h4
        omega
theorem parse_f (l : List UInt8) (h : Dec l) (hl : l.length ≤ 100000) (k : Nat) (hk : 2 * l.length + 10 ≤ k) :
    ∃ r, exact_parse.f k (B l) = some r ∧ V r = dv l ∧ Nrm r ∧ r.length ≤ l.length := by
  obtain ⟨o, h1, h2, h3, h4⟩ := parse_l0 l.length l k [] (Nat.le_refl _) (by omega) h Dig.nil (by simp only [List.length_nil]; omega) (by simp only [List.length_nil]; omega)
  refine ⟨trimL o, h1, ?_, trim_nrm h3, by have := trim_len o; simp only [List.length_nil] at h4; omega⟩
  rw [trim_V, h2]
  show 0 + 1 * dv l = dv l
  rw [Nat.zero_add, Nat.one_mul]
end Go.Proofs.YtckfdhnimmaeiaaGreatDoor.Pure
namespace Go.Proofs.YtckfdhnimmaeiaaGreatDoor.Pure
open Go.RowKit Go.Proofs.YtckfdhnimmaeiaaGreatDoor.Pr Go.Proofs.YtckfdhnimmaeiaaGreatDoorW.PrintWords Go.Proofs.YtckfdhnimmaeiaaGreatDoorW.PrintLast
/-! ### Numerals -/
theorem dec_small (u : Nat) (h : u < 10) : Lib.decDigits u = [UInt8.ofNat (48 + u)] := by rw [Lib.decDigits, dif_pos h]
theorem dec_big (u : Nat) (h : ¬ u < 10) : Lib.decDigits u = Lib.decDigits (u / 10) ++ [UInt8.ofNat (48 + u % 10)] := by rw [Lib.decDigits, dif_neg h]
theorem ten_digit (r : Nat) (h : r < 10) : isD (UInt8.ofNat (48 + r)) = true ∧ (UInt8.ofNat (48 + r)).toNat - 48 = r ∧ (r ≠ 0 → UInt8.ofNat (48 + r) ≠ 48) := by
  have : ∀ r : Fin 10, isD (UInt8.ofNat (48 + r.val)) = true ∧ (UInt8.ofNat (48 + r.val)).toNat - 48 = r.val ∧ (r.val ≠ 0 → UInt8.ofNat (48 + r.val) ≠ 48) := by decide +kernel
  exact this ⟨r, h⟩
theorem digit_ten (c : UInt8) (h : isD c = true) : UInt8.ofNat (48 + (c.toNat - 48)) = c := by
  have : ∀ n : Fin 256, isD (UInt8.ofNat n.val) = true → UInt8.ofNat (48 + ((UInt8.ofNat n.val).toNat - 48)) = UInt8.ofNat n.val := by decide +kernel
  have e := this ⟨c.toNat, UInt8.toNat_lt c⟩
  simp only [UInt8.ofNat_toNat] at e
  exact e h
theorem dv_snoc (l : List UInt8) (c : UInt8) : dv (l ++ [c]) = dv l * 10 + (c.toNat - 48) := by
  rw [dv_app, dv_cons]
  show dv l * 10 ^ 1 + ((c.toNat - 48) * 10 ^ 0 + 0) = _
  rw [Nat.pow_one, Nat.pow_zero, Nat.mul_one, Nat.add_zero]
theorem dv_dec (u : Nat) : dv (Lib.decDigits u) = u := by
  induction u using Nat.strongRecOn with
  | _ u ih =>
    by_cases h : u < 10
    · rw [dec_small u h, dv_cons, (ten_digit u h).2.1]
      show u * 1 + 0 = u
      omega
    · rw [dec_big u h, dv_snoc, ih _ (by omega), (ten_digit _ (by omega)).2.1]
      omega
theorem dec_Dec (u : Nat) : Dec (Lib.decDigits u) := by
  induction u using Nat.strongRecOn with
  | _ u ih =>
    intro c hc
    by_cases h : u < 10
    · rw [dec_small u h] at hc
      obtain rfl := List.mem_singleton.1 hc
      exact (ten_digit u h).1
    · rw [dec_big u h, List.mem_append] at hc
      rcases hc with hc | hc
      · exact ih _ (by omega) c hc
      · obtain rfl := List.mem_singleton.1 hc
        exact (ten_digit _ (by omega)).1
theorem dec_ne (u : Nat) : Lib.decDigits u ≠ [] := by
  by_cases h : u < 10
  · rw [dec_small u h]; simp
  · rw [dec_big u h]; simp
theorem dec_inj {u v : Nat} (h : Lib.decDigits u = Lib.decDigits v) : u = v := by rw [← dv_dec u, h, dv_dec]
theorem dec_head (u : Nat) (h1 : 1 ≤ u) : ∃ c r, Lib.decDigits u = c :: r ∧ c ≠ 48 := by
  induction u using Nat.strongRecOn with
  | _ u ih =>
    by_cases h : u < 10
    · exact ⟨_, [], dec_small u h, (ten_digit u h).2.2 (by omega)⟩
    · obtain ⟨c, r, e, hc⟩ := ih (u / 10) (by omega) (by omega)
      exact ⟨c, r ++ [UInt8.ofNat (48 + u % 10)], by rw [dec_big u h, e]; rfl, hc⟩
/-- A numeral without a wrong zero. -/
def Canon (l : List UInt8) : Prop := l ≠ [] ∧ Dec l ∧ (l.head? = some 48 → l.length = 1)
theorem dec_canon (u : Nat) : Canon (Lib.decDigits u) := by
  refine ⟨dec_ne u, dec_Dec u, fun h => ?_⟩
  rcases Nat.eq_zero_or_pos u with h0 | h0
  · subst h0; rw [dec_small 0 (by omega)]; rfl
  · obtain ⟨c, r, e, hc⟩ := dec_head u h0
    rw [e] at h
    exact absurd (Option.some.inj h) hc
theorem dv_pos (l : List UInt8) (h0 : l ≠ []) (hd : Dec l) (h : l.head? ≠ some 48) : 1 ≤ dv l := by
  cases l with
  | nil => exact absurd rfl h0
  | cons c r =>
    have hc := (isD_bounds c).1 (hd c List.mem_cons_self)
    have hne : c.toNat ≠ 48 := fun e => h (by
      have : c = 48 := UInt8.toNat_inj.1 e
      rw [this]; rfl)
    rw [dv_cons]
    have : 1 * 10 ^ r.length ≤ (c.toNat - 48) * 10 ^ r.length := Nat.mul_le_mul_right _ (by omega)
    have h2 : 0 < 10 ^ r.length := Nat.pow_pos (by decide)
    generalize 10 ^ r.length = P at this h2 ⊢
    omega
theorem dec_dv (l : List UInt8) (h : Canon l) : Lib.decDigits (dv l) = l := by
  have : ∀ n, ∀ l : List UInt8, l.length = n → Canon l → Lib.decDigits (dv l) = l := by
    intro n
    induction n with
    | zero => intro l hl h; exact absurd (List.eq_nil_of_length_eq_zero hl) h.1
    | succ n ih =>
      intro l hl h
      rcases List.eq_nil_or_concat l with rfl | ⟨r, c, rfl⟩
      · cases hl
      · rw [List.concat_eq_append] at hl h ⊢
        have hc := h.2.1 c (by simp)
        have hcb := (isD_bounds c).1 hc
        rw [dv_snoc]
        by_cases hr : r = []
        · subst hr
          show Lib.decDigits (0 * 10 + (c.toNat - 48)) = [c]
          rw [Nat.zero_mul, Nat.zero_add, dec_small _ (by omega), digit_ten c hc]
        · have hrd : Dec r := fun d hd => h.2.1 d (List.mem_append_left _ hd)
          have hhead : r.head? ≠ some 48 := by
            intro e
            have := h.2.2 (by rw [List.head?_append, e]; rfl)
            rw [List.length_append, List.length_singleton] at this
            have := List.length_pos_iff.2 hr
            omega
          have hpos := dv_pos r hr hrd hhead
          have hrc : Canon r := ⟨hr, hrd, fun e => absurd e hhead⟩
          have := ih r (by rw [List.length_append, List.length_singleton] at hl; omega) hrc
          rw [dec_big _ (by omega), show (dv r * 10 + (c.toNat - 48)) / 10 = dv r by omega, show (dv r * 10 + (c.toNat - 48)) % 10 = c.toNat - 48 by omega, this, digit_ten c hc]
  exact this l.length l rfl h
theorem dec_len_le (k : Nat) : ∀ u, u < 10 ^ (k + 1) → (Lib.decDigits u).length ≤ k + 1 := by
  induction k with
  | zero => intro u h; rw [dec_small u (by rw [Nat.zero_add, Nat.pow_one] at h; exact h)]; exact Nat.le_refl _
  | succ k ih =>
    intro u h
    by_cases h1 : u < 10
    · rw [dec_small u h1]; simp
    · rw [dec_big u h1, List.length_append]
      rw [Nat.pow_succ] at h
      have := ih (u / 10) (Nat.div_lt_of_lt_mul (by rw [Nat.mul_comm]; exact h))
      simp only [List.length_cons, List.length_nil]
      omega
theorem dec_lt (u : Nat) : u < 10 ^ (Lib.decDigits u).length := by
  have := dv_lt _ (dec_Dec u)
  rw [dv_dec] at this
  exact this
/-! ### text -/
/-- The last j digits. -/
def pad : Nat → Nat → List UInt8
  | 0, _ => []
  | j + 1, d => pad j (d / 10) ++ [UInt8.ofNat (48 + d % 10)]
theorem pad_zero (j : Nat) : pad j 0 = List.replicate j 48 := by
  induction j with
  | zero => rfl
  | succ j ih =>
    rw [pad, show 0 / 10 = 0 from rfl, ih, List.replicate_succ']
    rfl
/-- As the program writes it: zeros, then the numeral. -/
theorem pad_eq (j : Nat) : ∀ d, d < 10 ^ (j + 1) → pad (j + 1) d = List.replicate (j + 1 - (Lib.decDigits d).length) 48 ++ Lib.decDigits d := by
  induction j with
  | zero =>
    intro d h
    rw [Nat.zero_add, Nat.pow_one] at h
    rw [dec_small d h]
    show [] ++ [UInt8.ofNat (48 + d % 10)] = _
    rw [Nat.mod_eq_of_lt h]; rfl
  | succ j ih =>
    intro d h
    rw [pad]
    by_cases h1 : d < 10
    · rw [show d / 10 = 0 by omega, pad_zero, dec_small d h1, Nat.mod_eq_of_lt h1]
      rfl
    · rw [Nat.pow_succ] at h
      have hd : d / 10 < 10 ^ (j + 1) := Nat.div_lt_of_lt_mul (by rw [Nat.mul_comm]; exact h)
      rw [ih (d / 10) hd, dec_big d h1, List.length_append, List.length_singleton, List.append_assoc, show j + 1 + 1 - ((Lib.decDigits (d / 10)).length + 1) = j + 1 - (Lib.decDigits (d / 10)).length by omega]
theorem dec_pad (j : Nat) : ∀ a d, 1 ≤ a → d < 10 ^ j → Lib.decDigits (a * 10 ^ j + d) = Lib.decDigits a ++ pad j d := by
  induction j with
  | zero =>
    intro a d _ h
    rw [Nat.pow_zero] at h
    rw [Nat.pow_zero, Nat.mul_one, show d = 0 by omega, Nat.add_zero, pad, List.append_nil]
  | succ j ih =>
    intro a d ha h
    rw [Nat.pow_succ] at h ⊢
    have hd : d / 10 < 10 ^ j := Nat.div_lt_of_lt_mul (by rw [Nat.mul_comm]; exact h)
    have hp : 1 ≤ 10 ^ j := Nat.pow_pos (by decide)
    have hi := ih a (d / 10) ha hd
    have hap : 1 ≤ a * 10 ^ j := Nat.mul_le_mul ha hp
    rw [← Nat.mul_assoc]
    generalize a * 10 ^ j = X at hap hi ⊢
    rw [dec_big _ (by omega), show (X * 10 + d) / 10 = X + d / 10 by omega, show (X * 10 + d) % 10 = d % 10 by omega, hi, pad, List.append_assoc]
theorem text_V : ∀ l : List Int, Nrm l → textI l = Lib.decDigits (V l)
  | [], _ => by rw [textI, V, dec_small 0 (by omega)]; rfl
  | [d], _ => by rw [textI, V, V, Nat.mul_zero, Nat.add_zero]
  | d :: e :: r, h => by
    have ih := text_V (e :: r) h.tail
    have hd := h.1.head
    have hpos : 1 ≤ V (e :: r) := by
      rcases Nat.eq_zero_or_pos (V (e :: r)) with h0 | h0
      · exact absurd (h.tail.zero h0) (by simp)
      · exact h0
    have hlt : d.toNat < 10 ^ 9 := by
      show d.toNat < 1000000000
      omega
    rw [textI, ih, ← pad_eq 8 d.toNat hlt]
    show Lib.decDigits (V (e :: r)) ++ pad 9 d.toNat = Lib.decDigits (d.toNat + Bs * V (e :: r))
    rw [← dec_pad 9 _ _ hpos hlt]
    congr 1
    show _ * Bs + _ = _
    rw [Nat.mul_comm, Nat.add_comm]
end Go.Proofs.YtckfdhnimmaeiaaGreatDoor.Pure
