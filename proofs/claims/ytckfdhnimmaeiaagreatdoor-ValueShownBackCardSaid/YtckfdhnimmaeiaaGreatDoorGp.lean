/- Parse, Shortest, Fixed of fractions of any size (made by wip/tools/mkgp.py). -/
import Derived.Test.YtckfdhnimmaeiaaGreatDoorZf
import Derived.Test.YtckfdhnimmaeiaaGreatDoorSrd
import Derived.Test.YtckfdhnimmaeiaaGreatDoorFixed
import Derived.Test.YtckfdhnimmaeiaaGreatDoorPrx6
import Derived.Test.YtckfdhnimmaeiaaGreatDoorDec
import Derived.Test.YtckfdhnimmaeiaaGreatDoorShort
namespace Go.Proofs.YtckfdhnimmaeiaaGreatDoor.Pure
open Go.RowKit Go.Proofs.YtckfdhnimmaeiaaGreatDoor.Pr Go.Proofs.YtckfdhnimmaeiaaGreatDoorW.PrintWords Go.Proofs.YtckfdhnimmaeiaaGreatDoorW.PrintLast
theorem hasp (z : UInt8) (l : List UInt8) : stringslite_HasPrefix.f (B l) ⟨#[z]⟩ = some (decide (l.head? = some z)) := by
  unfold stringslite_HasPrefix.f
  have h1 : (ByteArray.mk #[z]).size = 1 := rfl
  rw [h1]
  cases l with
  | nil => rw [if_neg (by rw [B_size]; simp)]; rfl
  | cons c r =>
    rw [if_pos (by rw [B_size]; simp only [List.length_cons]; omega), if_pos (by omega), if_pos (by rw [B_size]; simp only [List.length_cons]; omega)]
    have e : (B (c :: r)).extract 0 ((1 : Nat) : Int).toNat = B [c] := ex_take (c :: r) 1
    rw [e, B_list]
    have e2 : (ByteArray.mk #[z]).toList = [z] := B_list [z]
    rw [e2]
    congr 1
    rw [Bool.eq_iff_iff, beq_iff_eq, decide_eq_true_eq]
    simp
theorem cutp (z : UInt8) (l : List UInt8) : strings_CutPrefix.f (B l) ⟨#[z]⟩ = some (if l.head? = some z then (B (l.drop 1), true) else (B l, false)) := by
  unfold strings_CutPrefix.f stringslite_CutPrefix.f
  rw [hasp, Option.bind_some]
  have h1 : (ByteArray.mk #[z]).size = 1 := rfl
  rw [h1]
  by_cases h : l.head? = some z
  · rw [if_pos (decide_eq_true h), if_pos h]
    have hl : 1 ≤ l.length := by cases l with | nil => cases h | cons c r => simp
    rw [if_pos (by omega), if_pos (by rw [B_size]; omega)]
    have e : (B l).extract ((1 : Nat) : Int).toNat (B l).size = B (l.drop 1) := ex_drop l 1
    rw [e]; rfl
  · rw [if_neg (by simp [h]), if_neg h]; rfl
theorem drop_run : ∀ (l r : List UInt8), Dec l → (∀ c, r.head? = some c → isD c = false) → (l ++ r).dropWhile isD = r
  | [], [], _, _ => rfl
  | [], c :: r, _, h => by rw [List.nil_append, List.dropWhile_cons, if_neg (by rw [h c rfl]; decide)]
  | a :: l, r, h, g => by
    rw [List.cons_append, List.dropWhile_cons, if_pos (h a List.mem_cons_self)]
    exact drop_run l r (fun c hc => h c (List.mem_cons_of_mem _ hc)) g
theorem run_f (l r : List UInt8) (hl : Dec l) (hr : ∀ c, r.head? = some c → isD c = false) (hn : (l ++ r).length ≤ 1000000) : exact_run.f (B (l ++ r)) = some (B l, B r) := by
  have ht : strings_TrimLeft.f (B (l ++ r)) ⟨#[48, 49, 50, 51, 52, 53, 54, 55, 56, 57]⟩ = some (B r) := by
    unfold strings_TrimLeft.f
    rw [if_pos ⟨by decide, by decide⟩]
    have hf : (fun b => ten0.contains b) = isD := funext ten_contains
    have : Lib.trimLeftS (l ++ r) ten0 = r := by
      unfold Lib.trimLeftS
      rw [hf]
      exact drop_run l r hl hr
    show some (B (Lib.trimLeftS (l ++ r) ten0)) = some (B r)
    rw [this]
  unfold exact_run.f
  rw [ht, Option.bind_some]
  rw [List.length_append] at hn
  have hw : wrap64 (((B (l ++ r)).size : Int) - ((B r).size : Int)) = (l.length : Int) := by
    rw [B_size, B_size, List.length_append]
    unfold wrap64
    omega
  rw [hw, if_pos (by omega), if_pos (by rw [B_size, List.length_append]; omega)]
  have e : (B (l ++ r)).extract 0 ((l.length : Nat) : Int).toNat = B l := by
    have := ex_take (l ++ r) l.length
    rw [List.take_left'  rfl] at this
    exact this
  rw [e]
theorem B_app (a b : List UInt8) : B a ++ B b = B (a ++ b) := B_of (by simp)
theorem rep_zeros : ∀ n, Lib.repeatL [48] n = List.replicate n 48
  | 0 => rfl
  | n + 1 => by rw [Lib.repeatL, rep_zeros n]; rfl
theorem dv_zeros : ∀ n, dv (List.replicate n 48) = 0
  | 0 => rfl
  | n + 1 => by
    rw [List.replicate_succ, dv_cons, dv_zeros n]
    show (0 : Nat) * _ + 0 = 0
    rw [Nat.zero_mul]
theorem dv_ten (n : Nat) : dv (49 :: List.replicate n 48) = 10 ^ n := by
  rw [dv_cons, dv_zeros, List.length_replicate]
  show 1 * 10 ^ n + 0 = 10 ^ n
  omega
theorem dec_zeros (n : Nat) : Dec (List.replicate n 48) := fun c hc => by rw [(List.mem_replicate.1 hc).2]; decide
theorem repeat_f (n : Nat) (h : n ≤ 1000000) : strings_Repeat.f ⟨#[48]⟩ (n : Int) = some (B (List.replicate n 48)) := by
  unfold strings_Repeat.f
  rw [if_pos ⟨by omega, by omega, by decide⟩]
  show some (B (Lib.repeatL [48] (n : Int).toNat)) = _
  rw [Int.toNat_natCast, rep_zeros]
theorem ten_f (n : Nat) (h : n ≤ 90000) (k : Nat) (hk : 200100 ≤ k) : ∃ D, exact_ten.f k (n : Int) = some D ∧ V D = 10 ^ n ∧ Nrm D ∧ D.length ≤ n + 1 := by
  have hd : Dec (49 :: List.replicate n 48) := by
    intro c hc
    rcases List.mem_cons.1 hc with rfl | hc
    · decide
    · exact dec_zeros n c hc
  obtain ⟨D, d1, d2, d3, d4⟩ := parse_f (49 :: List.replicate n 48) hd (by simp; omega) k (by simp; omega)
  refine ⟨D, ?_, by rw [d2, dv_ten], d3, by simpa using d4⟩
  unfold exact_ten.f
  rw [repeat_f n (by omega), Option.bind_some, if_pos (by rw [B_size, List.length_replicate]; omega)]
  have e : (⟨#[49]⟩ : ByteArray) ++ B (List.replicate n 48) = B (49 :: List.replicate n 48) := B_app [49] _
  rw [e, d1]; rfl
/-- A sign. -/
def sg (m : Bool) : List UInt8 := if m = true then [45] else []
/-- Behind the point. -/
def pt (P : List UInt8) : List UInt8 := if P = [] then [] else 46 :: P
theorem sg_len (m : Bool) : (sg m).length ≤ 1 := by cases m <;> decide
theorem pt_len (P : List UInt8) : (pt P).length ≤ P.length + 1 := by unfold pt; split <;> simp
theorem pt_head (P : List UInt8) (c : UInt8) (h : (pt P).head? = some c) : isD c = false := by
  unfold pt at h
  split at h
  · cases h
  · simp only [List.head?_cons, Option.some.injEq] at h
    rw [← h]; rfl
theorem dec_head45 {W : List UInt8} (h : Dec W) (r : List UInt8) (h0 : W ≠ []) (z : UInt8) (hz : isD z = false) : (W ++ r).head? ≠ some z := by
  cases W with
  | nil => exact absurd rfl h0
  | cons c r =>
    simp only [List.cons_append, List.head?_cons, ne_eq, Option.some.injEq]
    intro e
    have := h c List.mem_cons_self
    rw [e, hz] at this
    cases this
theorem Parse_f (m : Bool) (W P : List UInt8) (hW : Dec W) (hW0 : W ≠ []) (hP : Dec P) (hl : W.length + P.length ≤ 900) (hf : Fit (can (sv m (dv (W ++ P)), 10 ^ P.length))) (k : Nat) (hk : 10 ^ P.length + 3000000000 ≤ k) :
    exact_Parse.f k (B (sg m ++ (W ++ pt P))) = some (nt (can (sv m (dv (W ++ P)), 10 ^ P.length)), dt (can (sv m (dv (W ++ P)), 10 ^ P.length)), 0) := by
  have hk3 : 3000000000 ≤ k := Nat.le_trans (Nat.le_add_left _ _) hk
  obtain ⟨k, rfl⟩ : ∃ z, k = z + 2 := ⟨k - 2, by omega⟩
  have l1 := sg_len m
  have l2 := pt_len P
  have hWP : Dec (W ++ P) := fun c hc => (List.mem_append.1 hc).elim (hW c) (hP c)
  have hcut : strings_CutPrefix.f (B (sg m ++ (W ++ pt P))) ⟨#[45]⟩ = some (B (W ++ pt P), m) := by
    rw [cutp]
    cases m with
    | true =>
      have e : sg true ++ (W ++ pt P) = 45 :: (W ++ pt P) := rfl
      rw [e, if_pos (show (45 :: (W ++ pt P)).head? = some 45 from rfl)]; rfl
    | false =>
      have e : sg false ++ (W ++ pt P) = W ++ pt P := rfl
      rw [e, if_neg (dec_head45 hW _ hW0 45 rfl)]
  have hexp : exact_exponent.f (k + 1) (B []) = some (0, true) := by
    unfold exact_exponent.f
    rw [B_list, if_pos rfl]
  have hWne : (B W).toList ≠ [] := by rw [B_list]; exact hW0
  -- the rest, behind the cuts
  have rest : exact_Parse.j0 (k + 2) (B []) m (B W) (B P) = some (nt (can (sv m (dv (W ++ P)), 10 ^ P.length)), dt (can (sv m (dv (W ++ P)), 10 ^ P.length)), 0) := by
    obtain ⟨N, n1, n2, n3, n4⟩ := parse_f (W ++ P) hWP (by rw [List.length_append]; omega) k (by rw [List.length_append]; omega)
    rw [List.length_append] at n4
    simp only [exact_Parse.j0]
    rw [hexp, Option.bind_some, if_neg hWne]
    simp only [exact_Parse.j1, Bool.not_true, Bool.false_eq_true, if_false]
    rw [if_pos (by rw [B_size, B_size]; omega), B_app, n1, Option.bind_some, B_size]
    have hw : wrap64 ((0 : Int) - (P.length : Int)) = -(P.length : Int) := by unfold wrap64; omega
    rw [hw]
    by_cases hp : P.length = 0
    · have hpn : P = [] := List.eq_nil_of_length_eq_zero hp
      rw [if_neg (by omega)]
      have h0 : -(P.length : Int) = ((0 : Nat) : Int) := by omega
      rw [h0]
      obtain ⟨D, d1, d2, d3, d4⟩ := ten_f 0 (by omega) k (by omega)
      have dd : D.length ≤ 1 := d4
      obtain ⟨T, t1, t2, t3, t4⟩ := times_f N D n3.1 d3.1 (by omega) (by omega) k (by
        have := Nat.mul_le_mul (show N.length ≤ 900 by omega) (show D.length + 2 ≤ 3 by omega)
        omega)
      rw [d1, Option.bind_some, t1, Option.bind_some]
      rw [d2, Nat.pow_zero, Nat.mul_one, n2] at t2
      have nrm1 : Nrm [(1 : Int)] := ⟨Dig.one (by decide), by decide⟩
      have v1 : V [(1 : Int)] = 1 := rfl
      have hp0 : 10 ^ P.length = 1 := by rw [hp, Nat.pow_zero]
      rw [hp0] at hf ⊢
      have hw2 := write_f m T [1] t3 nrm1 (by omega) (by decide) (by rw [v1]; decide) (by rw [v1, t2]; exact hf.1) (by rw [v1, t2]; exact hf.2) k (by rw [v1]; omega)
      rw [v1, t2] at hw2
      rw [hw2, Option.bind_some]; rfl
    · rw [if_pos (by omega)]
      have hneg : wrap64 (-(-(P.length : Int))) = ((P.length : Nat) : Int) := by unfold wrap64; omega
      rw [hneg]
      obtain ⟨D, d1, d2, d3, d4⟩ := ten_f P.length (by omega) k (by omega)
      rw [d1, Option.bind_some]
      have hw2 := write_f m N D n3 d3 (by omega) (by omega) (by rw [d2]; exact Nat.pow_pos (by decide)) (by rw [d2, n2]; exact hf.1) (by rw [d2, n2]; exact hf.2) k (by rw [d2]; omega)
      rw [d2, n2] at hw2
      rw [hw2, Option.bind_some]; rfl
  unfold exact_Parse.f
  rw [if_neg (by rw [B_size, List.length_append, List.length_append]; omega), hcut, Option.bind_some]
  simp only
  rw [run_f W (pt P) hW (pt_head P) (by rw [List.length_append]; omega), Option.bind_some]
  simp only
  by_cases hp : P = []
  · have : pt P = [] := by unfold pt; rw [if_pos hp]
    rw [this, cutp, if_neg (by simp), Option.bind_some]
    simp only [Bool.false_eq_true, if_false]
    have e : (⟨#[]⟩ : ByteArray) = B P := by rw [hp]
    rw [e]
    exact rest
  · have : pt P = 46 :: P := by unfold pt; rw [if_neg hp]
    rw [this, cutp, if_pos (show (46 :: P).head? = some 46 from rfl), Option.bind_some]
    simp only [if_true]
    have hr := run_f P [] hP (by simp) (by rw [List.append_nil]; omega)
    rw [List.append_nil] at hr
    show ((exact_run.f (B P)).bind _) = _
    rw [hr, Option.bind_some, if_neg (by rw [B_list]; exact hp)]
    exact rest
end Go.Proofs.YtckfdhnimmaeiaaGreatDoor.Pure
namespace Go.Proofs.YtckfdhnimmaeiaaGreatDoor.Pure
open Go.RowKit Go.Proofs.YtckfdhnimmaeiaaGreatDoor.Pr Go.Proofs.YtckfdhnimmaeiaaGreatDoorW.PrintWords Go.Proofs.YtckfdhnimmaeiaaGreatDoorW.PrintLast
/-- All digits, at least p + 1 of them. -/
def full (z p : Nat) : List UInt8 := List.replicate (p + 1 - (Lib.decDigits z).length) 48 ++ Lib.decDigits z
def fW (z p : Nat) : List UInt8 := (full z p).take ((full z p).length - p)
def fP (z p : Nat) : List UInt8 := (full z p).drop ((full z p).length - p)
theorem full_len (z p : Nat) : p + 1 ≤ (full z p).length ∧ (full z p).length ≤ p + 1 + (Lib.decDigits z).length := by
  unfold full
  rw [List.length_append, List.length_replicate]
  omega
theorem full_app (z p : Nat) : fW z p ++ fP z p = full z p := List.take_append_drop _ _
theorem full_Dec (z p : Nat) : Dec (full z p) := fun c hc => (List.mem_append.1 hc).elim (dec_zeros _ c) (dec_Dec z c)
theorem fW_Dec (z p : Nat) : Dec (fW z p) := fun c hc => full_Dec z p c (List.mem_of_mem_take hc)
theorem fP_Dec (z p : Nat) : Dec (fP z p) := fun c hc => full_Dec z p c (List.mem_of_mem_drop hc)
theorem fP_len (z p : Nat) : (fP z p).length = p := by
  have := full_len z p
  unfold fP
  rw [List.length_drop]
  omega
theorem fW_len (z p : Nat) : (fW z p).length = (full z p).length - p := by
  unfold fW
  rw [List.length_take]
  omega
theorem fW_ne (z p : Nat) : fW z p ≠ [] := by
  intro h
  have h1 := fW_len z p
  have h2 := full_len z p
  rw [h, List.length_nil] at h1
  omega
theorem dv_full (z p : Nat) : dv (full z p) = z := by
  unfold full
  rw [dv_app, dv_zeros, dv_dec, Nat.zero_mul, Nat.zero_add]
/-- The text of z units of 10^-p. -/
def decT (m : Bool) (z p : Nat) : List UInt8 := sg (m && decide (z ≠ 0)) ++ (fW z p ++ pt (fP z p))
theorem text_len {q : List Int} (hq : Dig q) (hl : q.length ≤ 1000) : (Lib.decDigits (V q)).length ≤ 9001 := by
  have h : V q < 10 ^ (9 * q.length + 1) := by
    refine Nat.lt_of_lt_of_le (V_lt hq) ?_
    have h : Bs = 10 ^ 9 := rfl
    rw [h, ← Nat.pow_mul]
    exact Nat.pow_le_pow_right (by decide) (by omega)
  have := dec_len_le (9 * q.length) _ h
  omega
theorem decS_full (z p : Nat) : decS (B (full z p)) p = B (fW z p ++ pt (fP z p)) := by
  have hf := full_len z p
  unfold decS
  by_cases h0 : 0 < p
  · rw [if_pos h0, B_size, ex_take]
    have e : (B (full z p)).extract ((full z p).length - p) (full z p).length = B ((full z p).drop ((full z p).length - p)) := by
      have := ex_drop (full z p) ((full z p).length - p)
      rw [B_size] at this
      exact this
    rw [e]
    have hpt : pt (fP z p) = 46 :: fP z p := by
      unfold pt
      rw [if_neg (fun h => by have := fP_len z p; rw [h, List.length_nil] at this; omega)]
    rw [hpt]
    show B (fW z p) ++ B [46] ++ B (fP z p) = _
    rw [B_app, B_app, List.append_assoc]; rfl
  · rw [if_neg h0]
    have hP : fP z p = [] := List.eq_nil_of_length_eq_zero (by rw [fP_len]; omega)
    rw [← full_app, hP]; rfl
theorem decimal_f (m : Bool) (q D : List Int) (p k : Nat) (hq : Nrm q) (hl : q.length ≤ 1000) (hp : p ≤ 1000) : exact_number_decimal.f k m q D p = some (B (decT m (V q) p)) := by
  have hd := text_len hq.1 hl
  have h1 : 1 ≤ (Lib.decDigits (V q)).length := List.length_pos_iff.2 (dec_ne _)
  unfold exact_number_decimal.f
  rw [if_pos hp, text_f q hq (by omega), Option.bind_some, B_size, if_pos ⟨by omega, h1⟩, repeat_f _ (by omega), Option.bind_some, B_size, List.length_replicate, if_pos rfl, zero_f q hq, Option.bind_some, B_app]
  show some (if m = true ∧ decide (V q = 0) = false then (⟨#[45]⟩ : ByteArray) ++ decS (B (full (V q) p)) p else decS (B (full (V q) p)) p) = _
  rw [decS_full]
  unfold decT
  cases m with
  | false => rw [if_neg (by simp)]; rfl
  | true =>
    by_cases hz : V q = 0
    · rw [if_neg (by simp [hz]), decide_eq_false (by simp [hz])]; rfl
    · rw [if_pos ⟨rfl, decide_eq_false hz⟩, decide_eq_true hz]
      have e : (⟨#[45]⟩ : ByteArray) ++ B (fW (V q) p ++ pt (fP (V q) p)) = B ([45] ++ (fW (V q) p ++ pt (fP (V q) p))) := B_app [45] _
      rw [e]; rfl
theorem sv_and (m : Bool) (z : Nat) : sv (m && decide (z ≠ 0)) z = sv m z := by
  cases m with
  | false => rfl
  | true =>
    by_cases h : z = 0
    · subst h; rfl
    · rw [decide_eq_true h]; rfl
/-- A decimal text is read as what it says. -/
theorem parse_decT (m : Bool) (z p k : Nat) (hz : (Lib.decDigits z).length ≤ 400) (hp : p ≤ 200) (hf : Fit (can (sv m z, 10 ^ p))) (hk : 10 ^ p + 3000000000 ≤ k) : exact_Parse.f k (B (decT m z p)) = some (nt (can (sv m z, 10 ^ p)), dt (can (sv m z, 10 ^ p)), 0) := by
  have h1 := fP_len z p
  have h2 := fW_len z p
  have h3 := full_len z p
  have h := Parse_f (m && decide (z ≠ 0)) (fW z p) (fP z p) (fW_Dec z p) (fW_ne z p) (fP_Dec z p) (by omega)
  rw [full_app, dv_full, sv_and, h1] at h
  exact h hf k hk
/-! ### Shortest -/
theorem nrm10 : Nrm [(10 : Int)] := ⟨Dig.one (by decide), by decide⟩
theorem V10 : V [(10 : Int)] = 10 := rfl
theorem ne_of_V {l : List Int} {n : Nat} (h : V l = n) (h0 : 0 < n) : l ≠ [] := fun e => by
  rw [e] at h
  have : V [] = 0 := rfl
  omega
theorem len_nine (q : List Int) (hq : Nrm q) (e : Nat) (h : V q < 10 ^ e) : 9 * q.length ≤ e + 9 := by
  by_cases h0 : q = []
  · rw [h0]; simp
  · have h1 := V_pos_len hq h0
    have h2 : Bs = 10 ^ 9 := rfl
    rw [h2, ← Nat.pow_mul] at h1
    have h3 : 9 * (q.length - 1) < e := by
      rcases Nat.lt_or_ge (9 * (q.length - 1)) e with h4 | h4
      · exact h4
      · have := Nat.pow_le_pow_right (show 0 < 10 by decide) h4
        omega
    omega
/-- What Shortest tells. -/
structure Short (m : Bool) (N D : List Int) (s : ByteArray) (ok : Bool) : Prop where
  no : ok = false → s = ⟨#[]⟩
  yes : ok = true → ∃ p, p ≤ 1000 ∧ V D ∣ 10 ^ p ∧ s = B (decT m (V N * 10 ^ p / V D) p)
theorem shortest_l0 (m : Bool) (N D : List Int) (hN : Nrm N) (hD : Nrm D) (lN : N.length ≤ 300) (lD : D.length ≤ 300) (hD0 : 0 < V D) (E : Nat) (hE : ∀ p, 2 ^ p ≤ E → p ≤ 1000) (hD1 : V D ≤ E) : ∀ (n k p : Nat) (d : List Int), Nrm d → d.length ≤ 300 → 0 < V d → V d ≤ n → 2 ^ p * V d ≤ V D → V D ∣ V d * 10 ^ p → n + 3000000000 ≤ k →
    ∃ s ok, exact_Shortest.l0 k p d m N D = some (s, ok, 0) ∧ Short m N D s ok
  | 0, _, _, d, _, _, h1, h2, _, _, _ => absurd h1 (by omega)
  | n + 1, k, p, d, hd, ld, h0, hn, h2, hdiv, hk => by
    obtain ⟨k, rfl⟩ : ∃ z, k = z + 1 := ⟨k - 1, by omega⟩
    have hp : p ≤ 1000 := hE p (Nat.le_trans (Nat.le_trans (Nat.le_mul_of_pos_right _ h0) h2) hD1)
    have hDn : D ≠ [] := ne_of_V rfl hD0
    have hdn : d ≠ [] := ne_of_V rfl h0
    simp only [exact_Shortest.l0]
    rw [if_pos (by omega), one_f d hd, Option.bind_some]
    by_cases h1 : V d = 1
    · rw [if_pos (decide_eq_true h1)]
      obtain ⟨T, t1, t2, t3, t4⟩ := ten_f p (by omega) k (by omega)
      have t5 : T.length ≤ 112 := by
        have := len_nine T t3 (p + 1) (by rw [t2]; exact Nat.pow_lt_pow_right (by decide) (Nat.lt_succ_self p))
        omega
      obtain ⟨M, m1, m2, m3, m4⟩ := times_f N T hN.1 t3.1 (by omega) (by omega) k (by
        have := Nat.mul_le_mul lN (show T.length + 2 ≤ 136 by omega)
        omega)
      obtain ⟨q, r, q1, q2, _, q4, _, q6, _⟩ := divide_f M D m3.1 hD hDn (by omega) (by omega) k (by omega)
      rw [t1, Option.bind_some, m1, Option.bind_some, q1, Option.bind_some]
      simp only
      rw [decimal_f m q [1] p k q4 (by omega) (by omega), Option.bind_some, q2, m2, t2]
      refine ⟨_, _, rfl, ⟨(fun h => by cases h), fun _ => ⟨p, hp, ?_, rfl⟩⟩⟩
      rw [h1, Nat.one_mul] at hdiv
      exact hdiv
    · rw [if_neg (by simp [h1])]
      obtain ⟨q, r, q1, q2, q3, q4, q5, q6, q7⟩ := divide_f d [10] hd.1 nrm10 (by simp) (by omega) (by decide) k (by simp only [List.length_singleton]; omega)
      rw [q1, Option.bind_some]
      simp only
      rw [zero_f r q5, Option.bind_some]
      rw [V10] at q2 q3
      by_cases hr : V r = 0
      · rw [if_pos (decide_eq_true hr)]
        have e : V d = 10 * V q := by omega
        refine shortest_l0 m N D hN hD lN lD hD0 E hE hD1 n k (p + 1) q q4 (by omega) (by omega) (by omega) ?_ ?_ (by omega)
        · rw [Nat.pow_succ]
          refine Nat.le_trans ?_ h2
          rw [e, Nat.mul_assoc]
          exact Nat.mul_le_mul_left _ (by omega)
        · refine Nat.dvd_trans hdiv ?_
          rw [e, Nat.pow_succ]
          exact ⟨1, by rw [Nat.mul_one, Nat.mul_comm 10 (V q), Nat.mul_assoc, Nat.mul_comm 10 (10 ^ p)]⟩
      · rw [if_neg (by simp [hr])]
        obtain ⟨g, g1, g2, g3, g4⟩ := common_f 10 d [10] k hd nrm10 (by omega) (by decide) (by rw [V10]; exact Nat.le_refl _) (by omega)
        rw [g1, Option.bind_some, one_f g g3, Option.bind_some]
        rw [V10] at g2
        by_cases hg : V g = 1
        · rw [if_pos (decide_eq_true hg)]
          exact ⟨_, _, rfl, ⟨fun _ => rfl, fun h => by cases h⟩⟩
        · rw [if_neg (by simp [hg])]
          have hg10 : V g ∣ 10 := by rw [g2]; exact Nat.gcd_dvd_right _ _
          have hgd : V g ∣ V d := by rw [g2]; exact Nat.gcd_dvd_left _ _
          have hgp : 0 < V g := by rw [g2]; exact Nat.gcd_pos_of_pos_right _ (by decide)
          have hg2 : 2 ≤ V g := by omega
          obtain ⟨q', r', q1', q2', _, q4', _, q6', _⟩ := divide_f d g hd.1 g3 (ne_of_V rfl hgp) (by omega) g4 k (by omega)
          have e : V g * V q' = V d := by rw [q2']; exact Nat.mul_div_cancel' hgd
          have hq0 : 0 < V q' := by
            rcases Nat.eq_zero_or_pos (V q') with h | h
            · rw [h, Nat.mul_zero] at e; omega
            · exact h
          have h22 : 2 * V q' ≤ V d := by rw [← e]; exact Nat.mul_le_mul_right _ hg2
          rw [q1', Option.bind_some]
          refine shortest_l0 m N D hN hD lN lD hD0 E hE hD1 n k (p + 1) q' q4' (by omega) hq0 (by omega) ?_ ?_ (by omega)
          · rw [Nat.pow_succ, Nat.mul_assoc]
            exact Nat.le_trans (Nat.mul_le_mul_left _ h22) h2
          · refine Nat.dvd_trans hdiv ?_
            rw [← e, Nat.pow_succ, Nat.mul_comm (10 ^ p) 10, ← Nat.mul_assoc]
            refine Nat.mul_dvd_mul_right ?_ _
            rw [Nat.mul_comm]
            exact Nat.mul_dvd_mul_left _ hg10
/-- A fraction as a number of units. -/
def units (x : Q) (p : Nat) : Nat := x.1.natAbs * 10 ^ p / x.2
/-- The sign. -/
def neg (x : Q) : Bool := decide (x.1 < 0)
theorem units_back {x : Q} {p : Nat} (h : x.2 ∣ 10 ^ p) : units x p * x.2 = x.1.natAbs * 10 ^ p := Nat.div_mul_cancel (Nat.dvd_trans h (Nat.dvd_mul_left _ _))
theorem units_can {x : Q} {p : Nat} (hx : qLow x) (h : x.2 ∣ 10 ^ p) : can (sv (neg x) (units x p), 10 ^ p) = x := by
  have hp : 0 < 10 ^ p := Nat.pow_pos (by decide)
  rw [show can (sv (neg x) (units x p), 10 ^ p) = can x from can_of_eq hp hx.1 ?_]
  · exact can_low_self hx
  · show sv (neg x) (units x p) * (x.2 : Int) = x.1 * ((10 ^ p : Nat) : Int)
    have e : ((units x p * x.2 : Nat) : Int) = ((x.1.natAbs * 10 ^ p : Nat) : Int) := by rw [units_back h]
    have e1 : ((units x p * x.2 : Nat) : Int) = (units x p : Int) * (x.2 : Int) := Int.natCast_mul _ _
    have e2 : ((x.1.natAbs * 10 ^ p : Nat) : Int) = (x.1.natAbs : Int) * ((10 ^ p : Nat) : Int) := Int.natCast_mul _ _
    rw [e1, e2] at e
    conv => rhs; rw [← sv_dec x.1]
    unfold neg sv
    by_cases hz : x.1 < 0
    · rw [decide_eq_true hz, if_pos rfl, if_pos rfl, Int.neg_mul, Int.neg_mul, e]
    · rw [decide_eq_false hz, if_neg (by decide), if_neg (by decide), e]
theorem fuel_small (a b k : Nat) (ha : a ≤ 1000) (hb : b ≤ 1000) (hk : 20000000 ≤ k) : a * (b + 2) + a + b + 5 ≤ k := by
  have := Nat.mul_le_mul ha (show b + 2 ≤ 1002 by omega)
  omega
/-- Times a power of ten. -/
theorem scaled_f (m : Bool) (N D : List Int) (n k : Nat) (hN : Nrm N) (lN : N.length ≤ 800) (hn : n ≤ 200) (hk : 20000000 ≤ k) : ∃ N', exact_number_scaled.f k m N D (n : Int) = some (m, N', D) ∧ V N' = V N * 10 ^ n ∧ Nrm N' ∧ N'.length ≤ N.length + n + 1 := by
  obtain ⟨T, t1, t2, t3, t4⟩ := ten_f n (by omega) k (by omega)
  obtain ⟨M, m1, m2, m3, m4⟩ := times_f N T hN.1 t3.1 (by omega) (by omega) k (fuel_small _ _ _ (by omega) (by omega) hk)
  refine ⟨M, ?_, by rw [m2, t2], m3, by omega⟩
  unfold exact_number_scaled.f
  rw [if_neg (by omega), t1, Option.bind_some, m1, Option.bind_some]
/-- To the nearest whole number. -/
theorem rounded_f (m : Bool) (N D : List Int) (k : Nat) (hN : Nrm N) (hD : Nrm D) (lN : N.length ≤ 1000) (lD : D.length ≤ 1000) (hD0 : 0 < V D) (hk : 2000000000 ≤ k) : ∃ Q', exact_number_rounded.f k m N D = some (m, Q', [1]) ∧ V Q' = (V N + V N + V D) / (V D + V D) ∧ Nrm Q' ∧ Q'.length ≤ 2 * N.length + D.length + 5 := by
  obtain ⟨a, a1, a2, a3, a4⟩ := plus_f N N hN hN (by omega) (by omega) k (by omega)
  obtain ⟨b, b1, b2, b3, b4⟩ := plus_f a D a3 hD (by omega) (by omega) k (by omega)
  obtain ⟨c, c1, c2, c3, c4⟩ := plus_f D D hD hD (by omega) (by omega) k (by omega)
  obtain ⟨q, r, q1, q2, _, q4, _, q6, _⟩ := divide_f b c b3.1 c3 (ne_of_V c2 (by omega)) (by omega) (by omega) k (by omega)
  refine ⟨q, ?_, by rw [q2, b2, a2, c2], q4, by omega⟩
  unfold exact_number_rounded.f
  rw [a1, Option.bind_some, b1, Option.bind_some, c1, Option.bind_some, q1, Option.bind_some]
/-- The nearest number of units. -/
def near (x : Q) (n : Nat) : Nat := (x.1.natAbs * 10 ^ n + x.1.natAbs * 10 ^ n + x.2) / (x.2 + x.2)
/-- Times a power of ten. -/
theorem scaled_f2 (m : Bool) (N D : List Int) (n k : Nat) (hN : Nrm N) (lN : N.length ≤ 1000) (hn : n ≤ 200) (hk : 20000000 ≤ k) : ∃ N', exact_number_scaled.f k m N D (n : Int) = some (m, N', D) ∧ V N' = V N * 10 ^ n ∧ Nrm N' ∧ N'.length ≤ N.length + n + 1 := by
  obtain ⟨T, t1, t2, t3, t4⟩ := ten_f n (by omega) k (by omega)
  obtain ⟨M, m1, m2, m3, m4⟩ := times_f N T hN.1 t3.1 (by omega) (by omega) k (fuel_small _ _ _ (by omega) (by omega) hk)
  refine ⟨M, ?_, by rw [m2, t2], m3, by omega⟩
  unfold exact_number_scaled.f
  rw [if_neg (by omega), t1, Option.bind_some, m1, Option.bind_some]
/-- A whole number over a power of ten. -/
theorem scaled_back2 (m : Bool) (N : List Int) (n k : Nat) (hN : Nrm N) (lN : N.length ≤ 1000) (hn : n ≤ 200) (hk : 20000000 ≤ k) : ∃ N' D', exact_number_scaled.f k m N [1] (wrap64 (-(n : Int))) = some (m, N', D') ∧ V N' = V N ∧ V D' = 10 ^ n ∧ Nrm N' ∧ Nrm D' ∧ N'.length ≤ N.length + 1 ∧ D'.length ≤ n + 2 := by
  have nrm1 : Nrm [(1 : Int)] := ⟨Dig.one (by decide), by decide⟩
  have v1 : V [(1 : Int)] = 1 := rfl
  have hw : wrap64 (-(n : Int)) = -(n : Int) := by unfold wrap64; omega
  rw [hw]
  by_cases h : n = 0
  · subst h
    obtain ⟨N', a1, a2, a3, a4⟩ := scaled_f2 m N [1] 0 k hN lN (by omega) hk
    exact ⟨N', [1], a1, by rw [a2, Nat.pow_zero, Nat.mul_one], by rw [v1, Nat.pow_zero], a3, nrm1, by omega, by decide⟩
  · obtain ⟨T, t1, t2, t3, t4⟩ := ten_f n (by omega) k (by omega)
    obtain ⟨M, m1, m2, m3, m4⟩ := times_f [1] T nrm1.1 t3.1 (by decide) (by omega) k (fuel_small _ _ _ (by decide) (by omega) hk)
    refine ⟨N, M, ?_, rfl, by rw [m2, t2, v1, Nat.one_mul], hN, m3, by omega, by simp only [List.length_singleton] at m4; omega⟩
    have hneg : wrap64 (-(-(n : Int))) = ((n : Nat) : Int) := by unfold wrap64; omega
    unfold exact_number_scaled.f
    rw [if_pos (by omega), hneg, t1, Option.bind_some, m1, Option.bind_some]
theorem pow_3_10 (n : Nat) : 10 ^ (3 * n) ≤ 2 ^ (10 * n) := by rw [Nat.pow_mul, Nat.pow_mul]; exact Nat.pow_le_pow_left (by decide) n
theorem big_e : ∃ E : Nat, (∀ p, 2 ^ p ≤ E → p ≤ 1000) ∧ ∀ y, (Lib.decDigits y).length ≤ 300 → y ≤ E := by
  obtain ⟨n, hn⟩ : ∃ n : Nat, n = 100 := ⟨_, rfl⟩
  refine ⟨10 ^ (3 * n), fun p h => ?_, fun y h => ?_⟩
  · have := (Nat.pow_le_pow_iff_right (by decide : 1 < 2)).1 (Nat.le_trans h (pow_3_10 n))
    omega
  · exact Nat.le_of_lt (Nat.lt_of_lt_of_le (dec_lt y) (Nat.pow_le_pow_right (by decide) (by omega)))
theorem shortest_all (x : Q) (hx : qLow x) (fx : Fit x) : ∃ K, ∀ k, K ≤ k → ∃ s ok, exact_Shortest.f k (nt x) (dt x) = some (s, ok, 0) ∧ (ok = true → ∃ p, p ≤ 1000 ∧ x.2 ∣ 10 ^ p ∧ s = B (decT (neg x) (units x p) p)) := by
  obtain ⟨K1, h1⟩ := read_num x hx fx
  obtain ⟨E, hE2, hE3⟩ := big_e
  have hd2 : x.2 ≤ E := hE3 _ fx.2
  refine ⟨K1 + E + 3000000000, fun k hk => ?_⟩
  obtain ⟨m, N, D, e1, r⟩ := h1 k (by omega)
  have hd := hx.1
  obtain ⟨s, ok, e2, sh⟩ := shortest_l0 m N D r.hN r.hD r.lN r.lD (by rw [r.d]; exact hd) E hE2 (by rw [r.d]; exact hd2) E k 0 D r.hD r.lD (by rw [r.d]; exact hd) (by rw [r.d]; exact hd2) (by rw [Nat.pow_zero, Nat.one_mul]; exact Nat.le_refl _) (by rw [Nat.pow_zero, Nat.mul_one]; exact Nat.dvd_refl _) (by omega)
  refine ⟨s, ok, ?_, fun h => ?_⟩
  · unfold exact_Shortest.f
    rw [e1, Option.bind_some, if_pos rfl]
    exact e2
  · obtain ⟨p, p1, p2, p3⟩ := sh.yes h
    rw [r.d] at p2
    rw [r.d, r.n, r.m] at p3
    exact ⟨p, p1, p2, p3⟩
/-- What is written, if it fits. -/
theorem write_e (m : Bool) (N D : List Int) (hN : Nrm N) (hD : Nrm D) (hlN : N.length ≤ 600000) (hlD : D.length ≤ 600000) (h0 : 0 < V D) (k : Nat) (hk : V D + 2000000000 ≤ k) :
    ∃ r0 r1 e, exact_number_write.f k m N D = some (r0, r1, e) ∧ (e = 0 → Fit (can (sv m (V N), V D))) := by
  by_cases hf : Fit (can (sv m (V N), V D))
  · exact ⟨_, _, _, write_f m N D hN hD hlN hlD h0 hf.1 hf.2 k hk, fun _ => hf⟩
  · refine ⟨⟨#[]⟩, ⟨#[]⟩, 19, ?_, fun h => absurd h (by decide)⟩
    obtain ⟨k, rfl⟩ : ∃ z, k = z + 1 := ⟨k - 1, by omega⟩
    unfold exact_number_write.f
    rw [zero_f N hN, Option.bind_some]
    have hz : ¬ V N = 0 := by
      intro hz
      apply hf
      rw [hz]
      have : sv m 0 = 0 := by cases m <;> rfl
      rw [this, can_zero _ h0]
      refine ⟨?_, ?_⟩
      · show (Lib.decDigits 0).length ≤ 300
        rw [dec_small 0 (by omega)]; decide
      · show (Lib.decDigits 1).length ≤ 300
        rw [dec_small 1 (by omega)]; decide
    rw [if_neg (by simp [hz])]
    obtain ⟨g, g1, g2, g3, g4⟩ := common_f (V D) N D (k + 1) hN hD (by omega) (by omega) (Nat.le_refl _) (by omega)
    have hgp : 0 < V g := by rw [g2]; exact Nat.gcd_pos_of_pos_right _ h0
    have hgn : g ≠ [] := fun e => by rw [e] at hgp; exact absurd hgp (Nat.lt_irrefl 0)
    obtain ⟨q, r, q1, q2, _, q4, _, q6, _⟩ := divide_f N g hN.1 g3 hgn (by omega) g4 (k + 1) (by omega)
    obtain ⟨p, s, p1, p2, _, p4, _, p6, _⟩ := divide_f D g hD.1 g3 hgn (by omega) g4 (k + 1) (by omega)
    rw [g1, Option.bind_some, q1, Option.bind_some, p1, Option.bind_some]
    simp only
    rw [text_f q q4 (by omega), Option.bind_some, text_f p p4 (by omega), Option.bind_some, q2, p2, g2]
    have eN : (can (sv m (V N), V D)).1.natAbs = V N / Nat.gcd (V N) (V D) := by
      show (canN (sv m (V N)) (V D)).natAbs = _
      rw [can_abs, sv_abs]
    have eD : (can (sv m (V N), V D)).2 = V D / Nat.gcd (V N) (V D) := by
      show canD (sv m (V N)) (V D) = _
      unfold canD
      rw [sv_abs]
    rw [← eN, ← eD]
    unfold Fit denT at hf
    by_cases h1 : (Lib.decDigits (can (sv m (V N), V D)).1.natAbs).length ≤ 300
    · have h2 : ¬ (Lib.decDigits (can (sv m (V N), V D)).2).length ≤ 300 := fun h => hf ⟨h1, h⟩
      rw [if_neg (by rw [B_size]; omega), decide_eq_true (show ((B (Lib.decDigits (can (sv m (V N), V D)).2)).size : Int) > 300 by rw [B_size]; omega)]
      rfl
    · rw [if_pos (by rw [B_size]; omega)]
      rfl
theorem ten12 : wrap64 (-((12 : Nat) : Int)) = -((12 : Nat) : Int) := by unfold wrap64; omega
/-- Fixed to twelve places. -/
theorem fixed_all (x : Q) (hx : qLow x) (fx : Fit x) : ∃ K, ∀ k, K ≤ k → ∃ s e, exact_Fixed.f k (nt x) (dt x) 12 = some (s, e) ∧ (e = 0 → s = B (decT (neg x) (near x 12) 12) ∧ Fit (can (sv (neg x) (near x 12), 10 ^ 12))) := by
  obtain ⟨K1, h1⟩ := read_num x hx fx
  refine ⟨K1 + 10 ^ 12 + 4000000000, fun k hk => ?_⟩
  have hk1 : 10 ^ 12 + 3000000000 ≤ k := by omega
  obtain ⟨m, N, D, e1, r⟩ := h1 k (by omega)
  obtain rfl : m = neg x := r.m
  have lN := r.lN
  have lD := r.lD
  have hd := hx.1
  obtain ⟨N1, s1, s2, s3, s4⟩ := scaled_f (neg x) N D 12 k r.hN (by omega) (by omega) (by omega)
  obtain ⟨Z, z1, z2, z3, z4⟩ := rounded_f (neg x) N1 D k s3 r.hD (by omega) (by omega) (by rw [r.d]; exact hd) (by omega)
  rw [s2, r.n, r.d] at z2
  have vZ : V Z = near x 12 := z2
  have lZ : Z.length ≤ 1000 := by omega
  obtain ⟨N3, D3, w1, w2, w3, w4, w5, w6, w7⟩ := scaled_back2 (neg x) Z 12 k z3 lZ (by decide) (by omega)
  obtain ⟨r0, r1, e, v1, v2⟩ := write_e (neg x) N3 D3 w4 w5 (by omega) (by omega) (by rw [w3]; decide) k (by rw [w3]; omega)
  rw [w2, w3, vZ] at v2
  rw [ten12] at w1
  unfold exact_Fixed.f
  rw [if_pos ⟨by omega, by decide⟩, e1, Option.bind_some, if_pos rfl]
  simp only
  rw [s1, Option.bind_some, z1, Option.bind_some, w1, Option.bind_some, v1, Option.bind_some]
  simp only
  by_cases he : e = 0
  · rw [if_pos he, decimal_f (neg x) Z [1] 12 k z3 lZ (by omega), Option.bind_some, vZ]
    exact ⟨_, _, rfl, fun _ => ⟨rfl, v2 he⟩⟩
  · rw [if_neg he]
    exact ⟨_, _, rfl, fun h => absurd h he⟩
end Go.Proofs.YtckfdhnimmaeiaaGreatDoor.Pure
