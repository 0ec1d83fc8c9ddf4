/- squash: bit, number, walked by hand. -/
import Derived.Test.YtefhcgnamfnkbaaDoorRd
namespace Go.Proofs.YtefhcgnamfnkbaaDoor.Pr
open Go.RowKit Go.Proofs.YtefhcgnamfnkbaaDoorW.PrintWords Go.Proofs.YtefhcgnamfnkbaaDoorW.PrintLast Go.Proofs.YtefhcgnamfnkbaaDoorW.PrintMore
set_option linter.unusedVariables false
set_option linter.unusedSimpArgs false

/-- What is masked lies within the mask. -/
theorem bits_and_le (x : Int) (m : Nat) (hm : m < 9223372036854775808) : 0 ≤ bits .and .i64 x (m : Int) ∧ bits .and .i64 x (m : Int) ≤ m := by
  have h : bits .and .i64 x (m : Int) = IntKind.i64.wrap (((BitVec.ofInt 64 x &&& BitVec.ofInt 64 (m : Int)).toNat : Nat) : Int) := rfl
  have e : (BitVec.ofInt 64 (m : Int)).toNat = m := by
    rw [BitVec.toNat_ofInt]
    omega
  have h2 : (BitVec.ofInt 64 x &&& BitVec.ofInt 64 (m : Int)).toNat ≤ m := by
    rw [BitVec.toNat_and, e]
    exact Nat.and_le_right
  rw [h, IntKind.wrap_i64]
  generalize (BitVec.ofInt 64 x &&& BitVec.ofInt 64 (m : Int)).toNat = z at h2
  omega
theorem bits_and_1 (x : Int) : 0 ≤ bits .and .i64 x 1 ∧ bits .and .i64 x 1 ≤ 1 := bits_and_le x 1 (by decide)
theorem bits_and_15 (x : Int) : 0 ≤ bits .and .i64 x 15 ∧ bits .and .i64 x 15 ≤ 15 := bits_and_le x 15 (by decide)
theorem bits_and_32767 (x : Int) : 0 ≤ bits .and .i64 x 32767 ∧ bits .and .i64 x 32767 ≤ 32767 := bits_and_le x 32767 (by decide)
/-- The reader of bits at p. -/
structure Br (w : World) (p : Nat) (s : ByteArray) (i : Int) : Prop where
  box : w.heap[p]? = some (.cells #[.string s, .int .i64 i] 76 (0, 0))
  lo : 0 ≤ i
  hi : i ≤ 8 * (s.size : Int)
  sz : s.size ≤ 1099511627776
theorem Br.up {w w' : World} {p : Nat} {s : ByteArray} {i : Int} (h : Br w p s i) (k : Below w.heap.size w w') : Br w' p s i := ⟨blk_below h.box k, h.lo, h.hi, h.sz⟩
theorem Br.c0 {w : World} {p : Nat} {s : ByteArray} {i : Int} (h : Br w p s i) : w.cell? ⟨p, 0, none⟩ = some (.string s) := (blk_cell h.box 0).trans rfl
theorem Br.c1 {w : World} {p : Nat} {s : ByteArray} {i : Int} (h : Br w p s i) : w.cell? ⟨p, 1, none⟩ = some (.int .i64 i) := (blk_cell h.box 1).trans rfl
set_option maxHeartbeats 2000000 in
set_option maxRecDepth 100000 in
theorem bit_calls (p : Nat) (s : ByteArray) (i : Int) (w : World) (h : Br w p s i) :
    Calls Tryd.prog 79 #[.pointer (some ⟨p, 0, none⟩)] w fun r w' => ∃ b j, r = .returned (.int .i64 b) ∧ ((b = -1 ∧ j = i) ∨ (0 ≤ b ∧ b ≤ 1 ∧ j = i + 1)) ∧ Br w' p s j ∧ Ap w.heap.size p w w' := by
  have H := Aside0.mk h
  have c0 := h.c0
  have c1 := h.c1
  have f1 := blk_frozen h.box 1
  have h0 := h.lo
  have h1 := h.hi
  have hs := h.sz
  clear h
  by_cases hq : i = 8 * (s.size : Int)
  · have q1 : (i == 8 * (s.size : Int)) = true := beq_iff_eq.2 hq
    have HQ := Aside0.mk hq
    clear hq
    go_enter Tryd.func79, Tryd.ntmps79
    go_wp2
    repeat (go_quiet (fail); try go_wp2)
    go_ret
    exact ⟨-1, i, rfl, .inl ⟨rfl, rfl⟩, H.out.up climb, Ap.ofBelow climb (Nat.le_refl _)⟩
  · have q1 : (i == 8 * (s.size : Int)) = false := beq_eq_false_iff_ne.2 hq
    have q2 : 0 ≤ i / 8 := by omega
    have q3 : i / 8 < (s.size : Int) := by omega
    have q4 : 0 ≤ 7 - i % 8 := by omega
    go_enter Tryd.func79, Tryd.ntmps79
    go_wp2
    repeat (go_quiet (fail); try go_wp2)
    go_ret
    refine ⟨_, i + 1, rfl, .inr ⟨(bits_and_1 _).1, (bits_and_1 _).2, rfl⟩, ⟨blk_put (cs' := #[.string s, .int .i64 (i + 1)]) (blk_below H.out.box climb) 1 (.int .i64 (i + 1)) rfl, by omega, by omega, hs⟩, ?_⟩
    exact ap_set1 (Ap.ofBelow climb (Nat.le_refl _))
theorem Ap.seq {p : Nat} {w w1 w2 : World} (h : Ap w.heap.size p w w1) (k : Ap w1.heap.size p w1 w2) : Ap w.heap.size p w w2 := h.trans ⟨k.os, k.tape, k.output, k.size, fun i hi hg => k.block i (Nat.lt_of_lt_of_le hi h.size) hg⟩
theorem Ap.climb {p : Nat} {w w1 w2 : World} (h : Ap w.heap.size p w w1) (k : Below w1.heap.size w1 w2) : Ap w.heap.size p w w2 := h.seq (Ap.ofBelow k (Nat.le_refl _))
theorem pow_le15 {i : Nat} (h : i ≤ 15) : (2 : Int) ^ i ≤ 32768 := by
  have : i = 0 ∨ i = 1 ∨ i = 2 ∨ i = 3 ∨ i = 4 ∨ i = 5 ∨ i = 6 ∨ i = 7 ∨ i = 8 ∨ i = 9 ∨ i = 10 ∨ i = 11 ∨ i = 12 ∨ i = 13 ∨ i = 14 ∨ i = 15 := by omega
  rcases this with rfl | rfl | rfl | rfl | rfl | rfl | rfl | rfl | rfl | rfl | rfl | rfl | rfl | rfl | rfl | rfl <;> decide
set_option maxHeartbeats 2000000 in
set_option maxRecDepth 100000 in
theorem number_calls (p : Nat) (s : ByteArray) (i : Int) (n : Nat) (w : World) (hn : n ≤ 15) (h : Br w p s i) :
    Calls Tryd.prog 78 #[.pointer (some ⟨p, 0, none⟩), .int .i64 (n : Int)] w fun r w' => ∃ v j, r = .returned (.int .i64 v) ∧ -1 ≤ v ∧ v < 32768 ∧ Br w' p s j ∧ Ap w.heap.size p w w' := by
  have H := Aside0.mk h
  clear h
  go_enter Tryd.func78, Tryd.ntmps78
  go_wp2_with (fail)
  go_loopg [5, 8] n (fun kq v5 v8 w' => ∃ (q : Nat) (v j : Int), v5 = .int .i64 v ∧ v8 = .int .i64 (q : Int) ∧ q + kq = n ∧ 0 ≤ v ∧ v < 2 ^ q ∧ Aside0 (Br w' p s j) ∧ Aside0 (Ap w.heap.size p w w'))
  case atStart => exact ⟨0, 0, i, rfl, rfl, by omega, by omega, by omega, H, ⟨Ap.refl _ _ _⟩⟩
  case round =>
    clear H
    obtain ⟨q, v, j, rfl, rfl, hk, hv0, hv1, S, SA⟩ := hrel
    have hp := pow_le15 (i := q) (by omega)
    have hp2 : v < 32768 := by omega
    have HV := Aside0.mk hv1
    clear hv1 hp
    by_cases hq : q < n
    · obtain ⟨g1, hg1⟩ : ∃ g1, gk = g1 + 1 := ⟨gk - 1, by omega⟩
      go_wp2_with (first | (go_at_call 79; (with_reducible refine (bit_calls p s j _ S.out).mono ?_); rintro _ w1 ⟨b, j', rfl, hb, S', A'⟩; have SA_ := Aside0.mk (SA.out.seq A'); have S_ := Aside0.mk S'; clear S SA S' A'; have S := S_; have SA := SA_; clear S_ SA_))
      all_goals (try go_wp2)
      all_goals first
        | (go_ret; exact ⟨-1, j', rfl, by omega, by omega, S.out.up climb, SA.out.climb climb⟩)
        | go_roundg g1
      case measure => omega
      case rel =>
        have hb' : 0 ≤ b ∧ b ≤ 1 := by omega
        have e : (2 : Int) ^ (q + 1) = 2 * 2 ^ q := by rw [Int.pow_succ]; omega
        have hv := HV.out
        exact ⟨q + 1, 2 * v + b, j', rfl, by go_num, by omega, by omega, by omega, S, SA⟩
    · go_wp2
      go_ret
      exact ⟨v, j, rfl, by omega, hp2, S.out.up climb, SA.out.climb climb⟩
end Go.Proofs.YtefhcgnamfnkbaaDoor.Pr
