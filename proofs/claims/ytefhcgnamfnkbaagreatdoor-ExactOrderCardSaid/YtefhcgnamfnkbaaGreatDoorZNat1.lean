/- Natural numbers in the base 10^9, as lists of digits: their values; trim, compare, plus, minus. -/
import Derived.Test.YtefhcgnamfnkbaaGreatDoorPrx2
import Derived.Test.YtefhcgnamfnkbaaGreatDoorPrx3
import Derived.Test.YtefhcgnamfnkbaaGreatDoorPrx4
import Derived.Test.YtefhcgnamfnkbaaGreatDoorPlus
import Derived.Test.YtefhcgnamfnkbaaGreatDoorText
namespace Go.Proofs.YtefhcgnamfnkbaaGreatDoor.Pure
open Go.RowKit Go.Proofs.YtefhcgnamfnkbaaGreatDoor.Pr Go.Proofs.YtefhcgnamfnkbaaGreatDoorW.PrintWords Go.Proofs.YtefhcgnamfnkbaaGreatDoorW.PrintLast

/-! ### Values -/
def Bs : Nat := 1000000000
theorem Bs_eq : Bs = 1000000000 := rfl
def Dig (l : List Int) : Prop := ∀ d ∈ l, 0 ≤ d ∧ d < 1000000000
/-- What a row of digits spells, the least significant digit first. -/
def V : List Int → Nat
  | [] => 0
  | d :: r => d.toNat + Bs * V r
/-- No zero at the end. -/
def Nrm (l : List Int) : Prop := Dig l ∧ l.getLast? ≠ some 0
theorem Dig.tail {d : Int} {r : List Int} (h : Dig (d :: r)) : Dig r := fun x hx => h x (List.mem_cons_of_mem _ hx)
theorem Dig.head {d : Int} {r : List Int} (h : Dig (d :: r)) : 0 ≤ d ∧ d < 1000000000 := h d List.mem_cons_self
theorem Dig.app {a b : List Int} (h : Dig a) (g : Dig b) : Dig (a ++ b) := fun x hx => (List.mem_append.1 hx).elim (h x) (g x)
theorem Dig.take {a : List Int} (h : Dig a) (n : Nat) : Dig (a.take n) := fun x hx => h x (List.mem_of_mem_take hx)
theorem Dig.drop {a : List Int} (h : Dig a) (n : Nat) : Dig (a.drop n) := fun x hx => h x (List.mem_of_mem_drop hx)
theorem Dig.one {d : Int} (h : 0 ≤ d ∧ d < 1000000000) : Dig [d] := fun x hx => by rw [List.mem_singleton.1 hx]; exact h
theorem Dig.nil : Dig [] := fun _ h => by cases h
theorem V_app (a b : List Int) : V (a ++ b) = V a + Bs ^ a.length * V b := by
  induction a with
  | nil => simp [V]
  | cons d r ih =>
    rw [List.cons_append, V, V, ih, List.length_cons, Nat.pow_succ, Nat.mul_add, Nat.mul_comm (Bs ^ r.length) Bs, Nat.mul_assoc]
    omega
theorem V_lt {l : List Int} (h : Dig l) : V l < Bs ^ l.length := by
  induction l with
  | nil => simp [V]
  | cons d r ih =>
    have h1 := ih h.tail
    have h2 := h.head
    have h3 : Bs * (V r + 1) ≤ Bs * Bs ^ r.length := Nat.mul_le_mul_left _ h1
    rw [V, List.length_cons, Nat.pow_succ, Nat.mul_comm _ Bs]
    rw [Nat.mul_add] at h3
    have : d.toNat < Bs := by rw [Bs_eq]; omega
    omega
theorem V_zeros (n : Nat) : V (List.replicate n 0) = 0 := by
  induction n with
  | zero => rfl
  | succ n ih => rw [List.replicate_succ, V, ih]; rfl
theorem V_eq_zero {l : List Int} (h : Dig l) (hv : V l = 0) : ∀ d ∈ l, d = 0 := by
  induction l with
  | nil => intro d hd; cases hd
  | cons a r ih =>
    have h2 := h.head
    rw [V] at hv
    have h3 : Bs * V r = 0 := by omega
    have h4 : V r = 0 := by
      rcases Nat.mul_eq_zero.1 h3 with h | h
      · rw [Bs_eq] at h; cases h
      · exact h
    intro d hd
    rcases List.mem_cons.1 hd with rfl | hd
    · omega
    · exact ih h.tail h4 d hd
theorem Nrm.zero {l : List Int} (h : Nrm l) (hv : V l = 0) : l = [] := by
  rcases List.eq_nil_or_concat l with rfl | ⟨r, d, rfl⟩
  · rfl
  · exfalso
    have := V_eq_zero h.1 hv d (by simp)
    apply h.2
    simp [this]
theorem Nrm.tail {d : Int} {r : List Int} (h : Nrm (d :: r)) : Nrm r := by
  refine ⟨h.1.tail, fun e => h.2 ?_⟩
  cases r with
  | nil => cases e
  | cons a s => rw [List.getLast?_cons_cons]; exact e
theorem Nrm.nil : Nrm [] := ⟨Dig.nil, by simp⟩
/-- A number has one row of digits. -/
theorem V_inj : ∀ {a b : List Int}, Nrm a → Nrm b → V a = V b → a = b
  | [], b, _, hb, h => (hb.zero (by rw [← h]; rfl)).symm
  | d :: r, [], ha, _, h => ha.zero (by rw [h]; rfl)
  | d :: r, e :: s, ha, hb, h => by
    have h1 := ha.1.head
    have h2 := hb.1.head
    simp only [V, Bs_eq] at h
    have e1 : d.toNat = e.toNat := by omega
    have e2 : V r = V s := by omega
    have : d = e := by omega
    rw [this, V_inj ha.tail hb.tail e2]
theorem V_pos_len {l : List Int} (h : Nrm l) (h0 : l ≠ []) : Bs ^ (l.length - 1) ≤ V l := by
  rcases List.eq_nil_or_concat l with rfl | ⟨r, d, rfl⟩
  · exact absurd rfl h0
  · rw [List.concat_eq_append, V_app]
    have hd : d ≠ 0 := fun e => h.2 (by simp [e])
    have hd2 := h.1 d (by simp)
    have : 1 ≤ V [d] := by
      show 1 ≤ d.toNat + Bs * 0
      omega
    rw [List.length_append, List.length_singleton, Nat.add_sub_cancel]
    have := Nat.mul_le_mul_left (Bs ^ r.length) this
    omega

/-! ### trim -/
def trimL (l : List Int) : List Int := (l.reverse.dropWhile (fun d => d == 0)).reverse
theorem trim_snoc (l : List Int) (d : Int) : trimL (l ++ [d]) = if d = 0 then trimL l else l ++ [d] := by
  unfold trimL
  rw [List.reverse_append]
  by_cases h : d = 0
  · simp [h]
  · simp [h]
theorem trim_nil : trimL [] = [] := rfl
theorem snoc_ind {P : List Int → Prop} (h0 : P []) (h1 : ∀ l d, P l → P (l ++ [d])) (l : List Int) : P l := by
  have : ∀ n, ∀ l : List Int, l.length = n → P l := by
    intro n
    induction n with
    | zero => intro l hl; rw [List.eq_nil_of_length_eq_zero hl]; exact h0
    | succ n ih =>
      intro l hl
      rcases List.eq_nil_or_concat l with rfl | ⟨r, d, rfl⟩
      · exact h0
      · rw [List.concat_eq_append] at hl ⊢
        exact h1 r d (ih r (by rw [List.length_append, List.length_singleton] at hl; omega))
  exact this l.length l rfl
theorem trim_V (l : List Int) : V (trimL l) = V l := by
  refine snoc_ind (P := fun l => V (trimL l) = V l) rfl (fun l d ih => ?_) l
  rw [trim_snoc]
  by_cases h : d = 0
  · rw [if_pos h, ih, V_app, h]; simp [V]
  · rw [if_neg h]
theorem trim_sub (l : List Int) : ∃ n, trimL l = l.take n := by
  refine snoc_ind (P := fun l => ∃ n, trimL l = l.take n) ⟨0, rfl⟩ (fun l d ih => ?_) l
  rw [trim_snoc]
  obtain ⟨n, hn⟩ := ih
  by_cases h : d = 0
  · rw [if_pos h]
    refine ⟨min n l.length, ?_⟩
    rw [hn, List.take_append_of_le_length (Nat.min_le_right _ _), Nat.min_def]
    split
    · rfl
    · rw [List.take_of_length_le (by omega), List.take_length]
  · rw [if_neg h]
    exact ⟨(l ++ [d]).length, by rw [List.take_length]⟩
theorem trim_len (l : List Int) : (trimL l).length ≤ l.length := by
  obtain ⟨n, hn⟩ := trim_sub l
  rw [hn, List.length_take]; omega
theorem trim_nrm {l : List Int} (h : Dig l) : Nrm (trimL l) := by
  refine ⟨?_, ?_⟩
  · obtain ⟨n, hn⟩ := trim_sub l
    rw [hn]; exact h.take n
  · clear h
    refine snoc_ind (P := fun l => (trimL l).getLast? ≠ some 0) (by simp [trim_nil]) (fun l d ih => ?_) l
    rw [trim_snoc]
    by_cases h : d = 0
    · rw [if_pos h]; exact ih
    · rw [if_neg h]; simp [h]
theorem rd_nat (l : List Int) (i : Nat) (h : i < l.length) : rd l (i : Int) = l[i] := by
  unfold rd
  rw [Int.toNat_natCast, List.getD_eq_getElem?_getD, List.getElem?_eq_getElem h]; rfl
theorem wr_sub1 (n : Nat) (h1 : 1 ≤ n) (h : n ≤ 4611686018427387904) : wrap64 ((n : Int) - 1) = ((n - 1 : Nat) : Int) := by unfold wrap64; omega
theorem trim_f (l : List Int) : ∀ k, l.length < k → l.length ≤ 4611686018427387904 → exact_nat_trim.f k l = some (trimL l) := by
  refine snoc_ind (P := fun l => ∀ k, l.length < k → l.length ≤ 4611686018427387904 → exact_nat_trim.f k l = some (trimL l)) ?_ (fun l d ih => ?_) l
  · intro k hk _
    obtain ⟨k, rfl⟩ : ∃ q, k = q + 1 := ⟨k - 1, by omega⟩
    rfl
  · intro k hk hl
    obtain ⟨k, rfl⟩ : ∃ q, k = q + 1 := ⟨k - 1, by omega⟩
    rw [List.length_append, List.length_singleton] at hk hl
    have hlen : (l ++ [d]).length = l.length + 1 := by simp
    have hi := ih k (by omega) (by omega)
    unfold exact_nat_trim.f at hi ⊢
    simp only [exact_nat_trim.l0]
    rw [hlen, wr_sub1 (l.length + 1) (by omega) hl, Nat.add_sub_cancel, if_pos (by omega), if_pos (by omega), if_pos (by omega), rd_nat _ _ (by rw [hlen]; omega), trim_snoc]
    rw [List.getElem_append_right (Nat.le_refl _)]
    simp only [Nat.sub_self, List.getElem_cons_zero]
    by_cases h : d = 0
    · rw [if_pos h, if_pos h, if_pos (by omega), Int.toNat_natCast, List.take_append_of_le_length (Nat.le_refl _), List.take_length]
      exact hi
    · rw [if_neg h, if_neg h]

/-! ### compare -/
theorem V_split (l : List Int) (i : Nat) (h : i < l.length) : V (l.take (i + 1)) = V (l.take i) + Bs ^ i * (l[i]).toNat := by
  rw [List.take_add_one, List.getElem?_eq_getElem h, V_app, List.length_take, Nat.min_eq_left (by omega)]
  show _ = _
  simp [V]
/-- A number is less if its digits are, from the highest down. -/
theorem compare_l0 (a b : List Int) (ha : Dig a) (hb : Dig b) (hl : a.length = b.length) (hs : a.length ≤ 4611686018427387904) : ∀ (i k : Nat), i ≤ a.length → i < k →
    ∃ c : Int, exact_nat_compare.l0 k a b ((i : Int) - 1) = some c ∧ (c = 0 ↔ V (a.take i) = V (b.take i)) ∧ (c < 0 ↔ V (a.take i) < V (b.take i)) := by
  intro i
  induction i with
  | zero =>
    intro k _ hk
    obtain ⟨k, rfl⟩ : ∃ q, k = q + 1 := ⟨k - 1, by omega⟩
    refine ⟨0, ?_, by simp, by simp⟩
    simp only [exact_nat_compare.l0]
    rw [if_neg (by omega)]
  | succ i ih =>
    intro k hi hk
    obtain ⟨k, rfl⟩ : ∃ q, k = q + 1 := ⟨k - 1, by omega⟩
    have e : (((i + 1 : Nat) : Int) - 1) = (i : Int) := by omega
    have w : wrap64 ((i : Int) - 1) = (i : Int) - 1 := by unfold wrap64; omega
    have hia : i < a.length := by omega
    have hib : i < b.length := by omega
    have sa := V_split a i hia
    have sb := V_split b i hib
    have la := V_lt (ha.take i)
    have lb := V_lt (hb.take i)
    rw [List.length_take, Nat.min_eq_left (by omega)] at la lb
    have da := ha a[i] (List.getElem_mem hia)
    have db := hb b[i] (List.getElem_mem hib)
    rw [e]
    simp only [exact_nat_compare.l0]
    rw [if_pos (by omega), if_pos (by omega), if_pos (by omega), if_pos (by omega), rd_nat a i hia, rd_nat b i hib, w, sa, sb]
    by_cases h1 : a[i] = b[i]
    · rw [if_pos h1]
      obtain ⟨c, hc, h2, h3⟩ := ih k (by omega) (by omega)
      refine ⟨c, hc, ?_, ?_⟩
      · rw [h2, h1]; omega
      · rw [h3, h1]; omega
    · rw [if_neg h1]
      by_cases h2 : a[i] < b[i]
      · rw [if_pos h2]
        have h4 : Bs ^ i * ((a[i]).toNat + 1) ≤ Bs ^ i * (b[i]).toNat := Nat.mul_le_mul_left _ (by omega)
        rw [Nat.mul_add] at h4
        refine ⟨-1, rfl, ?_, ?_⟩
        · constructor
          · intro h; cases h
          · intro h; omega
        · constructor
          · intro _; omega
          · intro _; decide
      · rw [if_neg h2]
        have h4 : Bs ^ i * ((b[i]).toNat + 1) ≤ Bs ^ i * (a[i]).toNat := Nat.mul_le_mul_left _ (by omega)
        rw [Nat.mul_add] at h4
        refine ⟨1, rfl, ?_, ?_⟩
        · constructor
          · intro h; cases h
          · intro h; omega
        · constructor
          · intro h; exact absurd h (by decide)
          · intro h; omega
theorem V_len_lt {a b : List Int} (ha : Nrm a) (hb : Nrm b) (h : a.length < b.length) : V a < V b := by
  have h1 := V_lt ha.1
  have h2 := V_pos_len hb (by intro e; rw [e] at h; simp at h)
  have h3 : Bs ^ a.length ≤ Bs ^ (b.length - 1) := Nat.pow_le_pow_right (by rw [Bs_eq]; decide) (by omega)
  omega
theorem compare_f (a b : List Int) (ha : Nrm a) (hb : Nrm b) (hla : a.length ≤ 1000000) (hlb : b.length ≤ 1000000) (k : Nat) (hk : a.length < k) :
    ∃ c : Int, exact_nat_compare.f k a b = some c ∧ (c = 0 ↔ V a = V b) ∧ (c < 0 ↔ V a < V b) := by
  unfold exact_nat_compare.f
  by_cases h : a.length = b.length
  · rw [if_pos (by omega)]
    obtain ⟨c, h1, h2, h3⟩ := compare_l0 a b ha.1 hb.1 h (by omega) a.length k (Nat.le_refl _) hk
    have w : wrap64 ((a.length : Int) - 1) = (a.length : Int) - 1 := by unfold wrap64; omega
    rw [w]
    rw [List.take_length, List.take_of_length_le (by omega)] at h2 h3
    exact ⟨c, h1, h2, h3⟩
  · rw [if_neg (by omega)]
    have w : wrap64 ((a.length : Int) - (b.length : Int)) = (a.length : Int) - (b.length : Int) := by unfold wrap64; omega
    rw [w]
    refine ⟨_, rfl, ?_, ?_⟩
    · constructor
      · intro e; omega
      · intro e
        rcases Nat.lt_or_gt_of_ne h with h1 | h1
        · have := V_len_lt ha hb h1; omega
        · have := V_len_lt hb ha h1; omega
    · constructor
      · intro e; exact V_len_lt ha hb (by omega)
      · intro e
        rcases Nat.lt_or_gt_of_ne h with h1 | h1
        · omega
        · have := V_len_lt hb ha h1; omega
end Go.Proofs.YtefhcgnamfnkbaaGreatDoor.Pure
