/- squash: the reader's bit and number, exactly. Numbers out of bits, in plain Lean: what put wrote is read. -/
import Derived.Test.YtefhcgnamfnkbaaDoorSyd
namespace Go.Proofs.YtefhcgnamfnkbaaDoor.Sb
/-- The bit at i of a string. -/
def rb (s : ByteArray) (i : Nat) : Nat := (s.data.getD (i / 8) 0).toNat / 2 ^ (7 - i % 8) % 2
theorem rb_le (s : ByteArray) (i : Nat) : rb s i ≤ 1 := by
  have : rb s i < 2 := Nat.mod_lt _ (by omega)
  omega
/-- n bits from i on as a number. -/
def numF (s : ByteArray) (i : Nat) : Nat → Nat
  | 0 => 0
  | n + 1 => 2 * numF s i n + rb s (i + n)
theorem numF_lt (s : ByteArray) (i : Nat) : ∀ n, numF s i n < 2 ^ n
  | 0 => by simp [numF]
  | n + 1 => by
    have h1 := numF_lt s i n
    have h2 := rb_le s (i + n)
    have h3 : 2 ^ (n + 1) = 2 * 2 ^ n := by rw [Nat.pow_succ]; omega
    show 2 * numF s i n + rb s (i + n) < _
    omega
end Go.Proofs.YtefhcgnamfnkbaaDoor.Sb
namespace Go.Proofs.YtefhcgnamfnkbaaDoor.Pr
open Go.RowKit Go.Proofs.YtefhcgnamfnkbaaDoorW.PrintWords Go.Proofs.YtefhcgnamfnkbaaDoorW.PrintLast Go.Proofs.YtefhcgnamfnkbaaDoorW.PrintMore
open Go.Proofs.YtefhcgnamfnkbaaDoor.Sb
set_option linter.unusedVariables false
set_option linter.unusedSimpArgs false
theorem rb_val (s : ByteArray) (i : Nat) (h : i / 8 < s.size) : bits .and .i64 (wrap64 ((s[i / 8]'h).toNat : Int) / 2 ^ (7 - i % 8)) 1 = (rb s i : Int) := by
  have hb := UInt8.toNat_lt (s[i / 8]'h)
  have hw : wrap64 ((s[i / 8]'h).toNat : Int) = ((s[i / 8]'h).toNat : Int) := by unfold wrap64; omega
  have hd : ((s[i / 8]'h).toNat : Int) / 2 ^ (7 - i % 8) = (((s[i / 8]'h).toNat / 2 ^ (7 - i % 8) : Nat) : Int) := by rw [Int.natCast_ediv, Int.natCast_pow]; rfl
  rw [hw, hd, and_one' _ (Nat.lt_of_le_of_lt (Nat.div_le_self _ _) (by omega))]
  unfold rb
  have e : s.data.getD (i / 8) 0 = s[i / 8]'h := by
    have h' : i / 8 < s.data.size := h
    rw [← Array.getElem_eq_getD (h := h')]; rfl
  rw [e]
set_option maxHeartbeats 2000000 in
set_option maxRecDepth 100000 in
theorem bit_x (p : Nat) (s : ByteArray) (i : Nat) (w : World) (h : Br w p s (i : Int)) (hi : i < 8 * s.size) :
    Calls Tryd.prog 79 #[.pointer (some ⟨p, 0, none⟩)] w fun r w' => r = .returned (.int .i64 (rb s i : Int)) ∧ Br w' p s ((i + 1 : Nat) : Int) ∧ Ap w.heap.size p w w' := by
  have H := Aside0.mk h
  have c0 := h.c0
  have c1 := h.c1
  have f1 := blk_frozen h.box 1
  have hs := h.sz
  clear h
  have q1 : ((i : Int) == 8 * (s.size : Int)) = false := beq_eq_false_iff_ne.2 (by omega)
  have q2 : 0 ≤ (i : Int) / 8 := by omega
  have q3 : (i : Int) / 8 < (s.size : Int) := by omega
  have q4 : 0 ≤ 7 - (i : Int) % 8 := by omega
  have HV := Aside0.mk (rb_val s i (by omega))
  go_enter Tryd.func79, Tryd.ntmps79
  go_wp2
  repeat (go_quiet (fail); try go_wp2)
  rw [HV.out]
  go_ret
  refine ⟨rfl, ⟨blk_put (cs' := #[.string s, .int .i64 (((i + 1 : Nat) : Int))]) (blk_below H.out.box climb) 1 (.int .i64 ((i : Int) + 1)) (by rw [Int.natCast_add]; rfl), by omega, by omega, hs⟩, ?_⟩
  exact ap_set1 (Ap.ofBelow climb (Nat.le_refl _))
theorem bit_xb (p : Nat) (s : ByteArray) (i : Nat) (b : Int) (w : World) (h : Br w p s (i : Int)) (hi : i < 8 * s.size) (hb : (rb s i : Int) = b) :
    Calls Tryd.prog 79 #[.pointer (some ⟨p, 0, none⟩)] w fun r w' => r = .returned (.int .i64 b) ∧ Br w' p s ((i + 1 : Nat) : Int) ∧ Ap w.heap.size p w w' := by
  subst hb
  exact bit_x p s i w h hi
set_option maxHeartbeats 2000000 in
set_option maxRecDepth 100000 in
theorem number_x (p : Nat) (s : ByteArray) (i n : Nat) (w : World) (hn : n ≤ 15) (h : Br w p s (i : Int)) (hi : i + n ≤ 8 * s.size) :
    Calls Tryd.prog 78 #[.pointer (some ⟨p, 0, none⟩), .int .i64 (n : Int)] w fun r w' => r = .returned (.int .i64 (numF s i n : Int)) ∧ Br w' p s ((i + n : Nat) : Int) ∧ Ap w.heap.size p w w' := by
  have H := Aside0.mk h
  have HI := Aside0.mk hi
  clear h hi
  go_enter Tryd.func78, Tryd.ntmps78
  go_wp2_with (fail)
  go_loopg [5, 8] n (fun kq v5 v8 w' => ∃ (q : Nat) (v : Int), v5 = .int .i64 v ∧ v8 = .int .i64 (q : Int) ∧ q + kq = n ∧ 0 ≤ v ∧ v < 32768 ∧ Aside0 (v = (numF s i q : Int)) ∧ Aside0 (Br w' p s ((i + q : Nat) : Int)) ∧ Aside0 (Ap w.heap.size p w w'))
  case atStart => exact ⟨0, 0, rfl, rfl, by omega, by omega, by omega, ⟨rfl⟩, H, ⟨Ap.refl _ _ _⟩⟩
  case round =>
    clear H
    obtain ⟨q, v, rfl, rfl, hk, hv0, hv, E, S, SA⟩ := hrel
    by_cases hq : q < n
    · obtain ⟨g1, hg1⟩ : ∃ g1, gk = g1 + 1 := ⟨gk - 1, by omega⟩
      have hlt := Aside0.mk (numF_lt s i (q + 1))
      have EQ := Aside0.mk (show (numF s i (q + 1) : Int) = 2 * v + (rb s (i + q) : Int) by rw [E.out]; show ((2 * numF s i q + rb s (i + q) : Nat) : Int) = _; omega)
      obtain ⟨b, hrb⟩ : ∃ b : Int, (rb s (i + q) : Int) = b := ⟨_, rfl⟩
      have hb0 : 0 ≤ b := by omega
      have hb1 : b ≤ 1 := by have := rb_le s (i + q); omega
      rw [hrb] at EQ
      have HRB := Aside0.mk hrb
      have HG1 := Aside0.mk hg1
      have HIQ := Aside0.mk (show i + q < 8 * s.size by have := HI.out; omega)
      clear hrb hg1
      go_wp2_with (first | (go_at_call 79; (with_reducible refine (bit_xb p s (i + q) b _ S.out HIQ.out HRB.out).mono ?_); rintro _ w1 ⟨rfl, S', A'⟩; have SA_ := Aside0.mk (SA.out.seq A'); have S_ := Aside0.mk S'; clear S SA S' A'; have S := S_; have SA := SA_; clear S_ SA_))
      all_goals (try go_wp2)
      go_roundg g1
      case measure => have := HG1.out; omega
      case rel =>
        have h5 := HG1.out
        have h1 := hlt.out
        have h2 : 2 ^ (q + 1) ≤ 2 ^ 15 := Nat.pow_le_pow_right (by omega) (by omega)
        have h3 : (2 : Nat) ^ 15 = 32768 := by decide
        have h4 := EQ.out
        exact ⟨q + 1, 2 * v + b, by go_num, by go_num, by omega, by omega, by omega, ⟨EQ.out.symm⟩, S, SA⟩
    · obtain rfl : q = n := by omega
      go_wp2
      go_ret
      have e := E.out
      subst e
      exact ⟨rfl, S.out.up climb, SA.out.climb climb⟩
end Go.Proofs.YtefhcgnamfnkbaaDoor.Pr
namespace Go.Proofs.YtefhcgnamfnkbaaDoor.Sb
theorem kb_at (k : Nat) : ∀ (n j : Nat), j < n → (kb k n)[j]? = some (decide (k / 2 ^ (n - 1 - j) % 2 = 1))
  | 0, j, h => by omega
  | n + 1, 0, h => by
    show some (decide (k / 2 ^ n % 2 = 1)) = _
    rw [show n + 1 - 1 - 0 = n from by omega]
  | n + 1, j + 1, h => by
    show (kb k n)[j]? = _
    rw [kb_at k n j (by omega), show n + 1 - 1 - (j + 1) = n - 1 - j from by omega]
/-- The first e of n bits of k, as a number. -/
theorem numF_bits {s : ByteArray} {i n k : Nat} (hk : k < 2 ^ n) (h : ∀ j, j < n → rb s (i + j) = k / 2 ^ (n - 1 - j) % 2) : ∀ e, e ≤ n → numF s i e = k / 2 ^ (n - e)
  | 0, _ => by
    rw [Nat.sub_zero, Nat.div_eq_of_lt hk]; rfl
  | e + 1, he => by
    have ih := numF_bits hk h e (by omega)
    show 2 * numF s i e + rb s (i + e) = _
    rw [ih, h e (by omega), show n - e = (n - (e + 1)) + 1 from by omega, Nat.pow_succ, ← Nat.div_div_eq_div_mul, show n - 1 - e = n - (e + 1) from by omega]
    generalize k / 2 ^ (n - (e + 1)) = q
    omega
theorem numF_all {s : ByteArray} {i n k : Nat} (hk : k < 2 ^ n) (h : ∀ j, j < n → rb s (i + j) = k / 2 ^ (n - 1 - j) % 2) : numF s i n = k := by
  rw [numF_bits hk h n (Nat.le_refl n), Nat.sub_self, Nat.pow_zero, Nat.div_one]
/-- The bits of a list stand in a string from i on. -/
def Lies (s : ByteArray) (i : Nat) (bs : List Bool) : Prop := ∀ j, j < bs.length → rb s (i + j) = bt1 bs j
theorem Lies.left {s : ByteArray} {i : Nat} {a b : List Bool} (h : Lies s i (a ++ b)) : Lies s i a := fun j hj => by
  rw [h j (by rw [List.length_append]; omega)]
  unfold bt1
  rw [List.getD_eq_getElem?_getD, List.getD_eq_getElem?_getD, List.getElem?_append_left hj]
theorem Lies.right {s : ByteArray} {i : Nat} {a b : List Bool} (h : Lies s i (a ++ b)) : Lies s (i + a.length) b := fun j hj => by
  have := h (a.length + j) (by rw [List.length_append]; omega)
  rw [← Nat.add_assoc] at this
  rw [this]
  unfold bt1
  rw [List.getD_eq_getElem?_getD, List.getD_eq_getElem?_getD, List.getElem?_append_right (by omega), Nat.add_sub_cancel_left]
theorem Lies.num {s : ByteArray} {i k n : Nat} (h : Lies s i (kb k n)) : ∀ j, j < n → rb s (i + j) = k / 2 ^ (n - 1 - j) % 2 := fun j hj => by
  rw [h j (by rw [kb_length]; exact hj)]
  unfold bt1
  rw [List.getD_eq_getElem?_getD, kb_at k n j hj, Option.getD_some, bv_bit]
end Go.Proofs.YtefhcgnamfnkbaaDoor.Sb
