/- Natural numbers in the base 10^9: parse. -/
import Derived.Test.YtefhcgnamfnkbaaGreatDoorZNat5
import Derived.Lib.Atoi
import Derived.Lib.Strings
namespace Go.Proofs.YtefhcgnamfnkbaaGreatDoor.Pure
open Go.RowKit Go.Proofs.YtefhcgnamfnkbaaGreatDoor.Pr Go.Proofs.YtefhcgnamfnkbaaGreatDoorW.PrintWords Go.Proofs.YtefhcgnamfnkbaaGreatDoorW.PrintLast

/-- The bytes of a list. -/
abbrev B (l : List UInt8) : ByteArray := ⟨l.toArray⟩
theorem B_size (l : List UInt8) : (B l).size = l.length := by show l.toArray.size = _; simp
theorem B_data (l : List UInt8) : (B l).data.toList = l := rfl
theorem B_self (s : ByteArray) : B s.data.toList = s := rfl
theorem B_list (l : List UInt8) : (B l).toList = l := by rw [ByteArray.toList_eq]
theorem B_of {s : ByteArray} {l : List UInt8} (h : s.data.toList = l) : s = B l := by rw [← h]
theorem ex_drop (l : List UInt8) (a : Nat) : (B l).extract a (B l).size = B (l.drop a) := by
  refine B_of ?_
  rw [Lib.extract_data, B_size, B_data, List.take_of_length_le]
  rw [List.length_drop]; exact Nat.le_refl _
theorem ex_take (l : List UInt8) (a : Nat) : (B l).extract 0 a = B (l.take a) := by
  refine B_of ?_
  rw [Lib.extract_data, B_data, List.drop_zero]; rfl
def isD (c : UInt8) : Bool := decide (48 ≤ c.toNat ∧ c.toNat ≤ 57)
theorem isD_bounds (c : UInt8) : isD c = true ↔ 48 ≤ c.toNat ∧ c.toNat ≤ 57 := by unfold isD; simp
/-- All bytes are digits. -/
def Dec (l : List UInt8) : Prop := ∀ c ∈ l, isD c = true
def dvF (a : Nat) : List UInt8 → Nat
  | [] => a
  | c :: r => dvF (a * 10 + (c.toNat - 48)) r
/-- What digits spell. -/
def dv (l : List UInt8) : Nat := dvF 0 l
theorem lin_step (a x P D : Nat) : (a * 10 + x) * P + D = a * (P * 10) + (x * P + D) := by
  rw [Nat.add_mul, Nat.mul_assoc, Nat.mul_comm 10 P, Nat.add_assoc]
theorem dvF_lin (l : List UInt8) : ∀ a, dvF a l = a * 10 ^ l.length + dvF 0 l := by
  induction l with
  | nil => intro a; show a = a * 1 + 0; omega
  | cons c r ih =>
    intro a
    show dvF (a * 10 + (c.toNat - 48)) r = a * 10 ^ (r.length + 1) + dvF (0 * 10 + (c.toNat - 48)) r
    rw [ih (a * 10 + (c.toNat - 48)), ih (0 * 10 + (c.toNat - 48)), Nat.pow_succ, Nat.zero_mul, Nat.zero_add]
    exact lin_step _ _ _ _
theorem dv_app (a c : List UInt8) : dv (a ++ c) = dv a * 10 ^ c.length + dv c := by
  unfold dv
  have : ∀ (a c : List UInt8) (x : Nat), dvF x (a ++ c) = dvF (dvF x a) c := by
    intro a
    induction a with
    | nil => intro c x; rfl
    | cons d r ih => intro c x; exact ih c _
  rw [this, dvF_lin c (dvF 0 a)]
theorem lt_step (x D P : Nat) (hx : x ≤ 9) (h : D < P) : x * P + D < P * 10 := by
  have := Nat.mul_le_mul_right P hx
  omega
theorem dig9 (c : UInt8) (h : isD c = true) : c.toNat - 48 ≤ 9 := by
  have := (isD_bounds c).1 h
  omega
theorem dv_cons (c : UInt8) (r : List UInt8) : dv (c :: r) = (c.toNat - 48) * 10 ^ r.length + dv r := by
  unfold dv
  show dvF (0 * 10 + (c.toNat - 48)) r = _
  rw [Nat.zero_mul, Nat.zero_add, dvF_lin]
theorem dv_lt (l : List UInt8) (h : Dec l) : dv l < 10 ^ l.length := by
  induction l with
  | nil => exact Nat.one_pos
  | cons c r ih =>
    rw [dv_cons, List.length_cons, Nat.pow_succ]
    exact lt_step _ _ _ (dig9 c (h c List.mem_cons_self)) (ih fun d hd => h d (List.mem_cons_of_mem _ hd))
theorem decFrom_dv (l : List UInt8) (h : Dec l) : ∀ a, Lib.decFrom a l = some (dvF a l) := by
  induction l with
  | nil => intro a; rfl
  | cons c r ih =>
    intro a
    have hc := (isD_bounds c).1 (h c List.mem_cons_self)
    have : Lib.digitVal c = some (c.toNat - 48) := by unfold Lib.digitVal; rw [if_pos hc]
    simp only [Lib.decFrom, this]
    exact ih (fun d hd => h d (List.mem_cons_of_mem _ hd)) _
theorem atoi_dv (l : List UInt8) (h : Dec l) (h0 : l ≠ []) : Lib.atoi l = some ((dv l : Nat) : Int) := by
  cases l with
  | nil => exact absurd rfl h0
  | cons c r =>
    have hd := (isD_bounds c).1 (h c List.mem_cons_self)
    have n1 : (c == 45) = false := by
      refine beq_eq_false_iff_ne.2 fun e => ?_
      subst e; exact absurd hd.1 (by decide)
    have n2 : (c == 43) = false := by
      refine beq_eq_false_iff_ne.2 fun e => ?_
      subst e; exact absurd hd.1 (by decide)
    unfold Lib.atoi
    simp only [n1, n2, Bool.false_eq_true, if_false, Lib.decNat, List.isEmpty_cons, decFrom_dv (c :: r) h 0, Option.map_some]
    rfl
theorem mx_sub (n : Nat) (h : n ≤ 1000000) : mx 0 (wrap64 ((n : Int) - 9)) = ((n - 9 : Nat) : Int) := by
  have : wrap64 ((n : Int) - 9) = (n : Int) - 9 := by unfold wrap64; omega
  rw [this]
  unfold mx
  split <;> omega
theorem pow9 : (10 : Nat) ^ 9 = Bs := rfl
theorem nine_len (l : List UInt8) : (l.drop (l.length - 9)).length ≤ 9 := by rw [List.length_drop]; omega
theorem nine_full (l : List UInt8) (h : 9 ≤ l.length) : (l.drop (l.length - 9)).length = 9 := by rw [List.length_drop]; omega
theorem dv_nine (l : List UInt8) : dv l = dv (l.take (l.length - 9)) * Bs + dv (l.drop (l.length - 9)) := by
  have := dv_app (l.take (l.length - 9)) (l.drop (l.length - 9))
  rw [List.take_append_drop] at this
  rw [this]
  by_cases h9 : 9 ≤ l.length
  · rw [nine_full l h9]; rfl
  · have : l.take (l.length - 9) = [] := by rw [show l.length - 9 = 0 by omega]; rfl
    rw [this]
    show 0 * _ + _ = 0 * _ + _
    rw [Nat.zero_mul, Nat.zero_mul]
theorem parse_sum (VA P n D : Nat) : VA + P * (n + Bs * 0) + P * Bs * D = VA + P * (D * Bs + n) := by
  rw [Nat.mul_zero, Nat.add_zero, Nat.mul_add, Nat.mul_assoc, Nat.mul_comm Bs D]
  omega
theorem v_none (acc : List Int) : V acc = V acc + Bs ^ acc.length * dv [] := by
  show V acc = V acc + Bs ^ acc.length * 0
  rw [Nat.mul_zero, Nat.add_zero]
theorem parse_l0 (N : Nat) : ∀ (l : List UInt8) (k : Nat) (acc : List Int), l.length ≤ N → l.length ≤ 1000000 → Dec l → Dig acc → acc.length + l.length ≤ 1000000 → N + acc.length + l.length + 5 ≤ k →
    ∃ o, exact_parse.l0 k (B l) acc = some (trimL o) ∧ V o = V acc + Bs ^ acc.length * dv l ∧ Dig o ∧ o.length ≤ acc.length + l.length := by
  induction N with
  | zero =>
    intro l k acc hl _ _ ha hal hk
    obtain ⟨k, rfl⟩ : ∃ z, k = z + 1 := ⟨k - 1, by omega⟩
    have : l = [] := List.eq_nil_of_length_eq_zero (by omega)
    subst this
    simp only [exact_parse.l0]
    rw [if_neg (by rw [B_size]; simp), trim_f acc k (by omega) (by omega)]
    exact ⟨acc, rfl, v_none acc, ha, by simp⟩
  | succ N ih =>
    intro l k acc hl hl2 hd ha hal hk
    obtain ⟨k, rfl⟩ : ∃ z, k = z + 1 := ⟨k - 1, by omega⟩
    simp only [exact_parse.l0]
    by_cases h0 : l = []
    · subst h0
      rw [if_neg (by rw [B_size]; simp), trim_f acc k (by omega) (by omega)]
      exact ⟨acc, rfl, v_none acc, ha, by simp⟩
    · have hpos : 0 < l.length := List.length_pos_iff.2 h0
      rw [if_pos (by rw [B_size]; omega), show ((B l).size : Int) = (l.length : Int) from by rw [B_size], mx_sub l.length hl2, if_pos (by omega), if_pos (by omega), Int.toNat_natCast, ex_drop, ex_take]
      have hcl := nine_len l
      have hcd : Dec (l.drop (l.length - 9)) := fun c hc => hd c (List.mem_of_mem_drop hc)
      have hcn : l.drop (l.length - 9) ≠ [] := fun e => by
        have := congrArg List.length e
        rw [List.length_drop] at this
        simp at this; omega
      have hat : strconv_Atoi.f (B (l.drop (l.length - 9))) = some (((dv (l.drop (l.length - 9)) : Nat) : Int), none) := by
        unfold strconv_Atoi.f
        rw [if_pos (by rw [B_size]; omega), B_data, atoi_dv _ hcd hcn]
      have hlt : dv (l.drop (l.length - 9)) < 1000000000 := Nat.lt_of_lt_of_le (dv_lt _ hcd) (Nat.pow_le_pow_right (by decide) hcl)
      have hval := dv_nine l
      have hmod : ((dv (l.drop (l.length - 9)) : Nat) : Int) % 4294967296 = ((dv (l.drop (l.length - 9)) : Nat) : Int) := by omega
      rw [hat, Option.bind_some]
      simp only
      rw [hmod, if_pos (by omega)]
      generalize dv (l.drop (l.length - 9)) = n at hlt hval ⊢
      have htl : (l.take (l.length - 9)).length = l.length - 9 := by rw [List.length_take]; omega
      obtain ⟨o, h1, h2, h3, h4⟩ := ih (l.take (l.length - 9)) k (acc ++ [(n : Int)]) (by omega) (by omega) (fun c hc => hd c (List.mem_of_mem_take hc)) (ha.app (Dig.one (by omega))) (by rw [List.length_append, List.length_singleton]; omega) (by rw [List.length_append, List.length_singleton]; omega)
      refine ⟨o, h1, ?_, h3, ?_⟩
      · rw [h2, V_app, List.length_append, List.length_singleton, Nat.pow_succ, hval]
        have : V [(n : Int)] = n + Bs * 0 := rfl
        rw [this]
        exact parse_sum _ _ _ _
      · rw [List.length_append, List.length_singleton] at h4
        omega
theorem parse_f (l : List UInt8) (h : Dec l) (hl : l.length ≤ 100000) (k : Nat) (hk : 2 * l.length + 10 ≤ k) :
    ∃ r, exact_parse.f k (B l) = some r ∧ V r = dv l ∧ Nrm r ∧ r.length ≤ l.length := by
  obtain ⟨o, h1, h2, h3, h4⟩ := parse_l0 l.length l k [] (Nat.le_refl _) (by omega) h Dig.nil (by simp only [List.length_nil]; omega) (by simp only [List.length_nil]; omega)
  refine ⟨trimL o, h1, ?_, trim_nrm h3, by have := trim_len o; simp only [List.length_nil] at h4; omega⟩
  rw [trim_V, h2]
  show 0 + 1 * dv l = dv l
  rw [Nat.zero_add, Nat.one_mul]
end Go.Proofs.YtefhcgnamfnkbaaGreatDoor.Pure
