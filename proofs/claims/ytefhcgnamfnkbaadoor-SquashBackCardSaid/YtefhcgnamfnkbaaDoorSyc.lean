/- What the search finds, in plain Lean: bytes that agree. A match's length out of its symbol and extra bits, in plain Lean. Tokens decoded, in plain Lean: they give the string back. One letter repeated has few tokens, in plain Lean. -/
import Derived.Test.YtefhcgnamfnkbaaDoorSbv
import Derived.Test.YtefhcgnamfnkbaaDoorSbu
namespace Go.Proofs.YtefhcgnamfnkbaaDoor.Pr
open Go.Proofs.YtefhcgnamfnkbaaDoor.Sb
/-- As far as k and i agree, their bytes are the same. -/
theorem agree_eq (s : ByteArray) (k i : Nat) : ∀ (q m : Nat), (∀ j, j < m → byF s (k + j) = byF s (i + j)) → ∀ j, j < agree s k i m q → byF s (k + j) = byF s (i + j)
  | 0, m, h => h
  | q + 1, m, h => by
    unfold agree
    split
    · rename_i h1
      refine agree_eq s k i q (m + 1) fun j hj => ?_
      by_cases hjm : j = m
      · rw [hjm]; exact h1.2
      · exact h j (by omega)
    · exact h
/-- What is good of a find: it lies before i, no more than 32768 back, within the string, and its bytes agree. -/
structure Find (s : ByteArray) (i n : Nat) (fr : Int) : Prop where
  n520 : n ≤ 520
  room : i + n ≤ s.size
  same : n ≠ 0 → 0 ≤ fr ∧ fr < i ∧ (i : Int) - fr ≤ 32768 ∧ ∀ j, j < n → byF s (fr.toNat + j) = byF s (i + j)
theorem search_find (s : ByteArray) (i : Nat) (hi : i < s.size) : ∀ (t : Nat) (k : Int) (n : Nat) (fr : Int), -1 ≤ k → k < i → Find s i n fr → Find s i (search s i t k n fr).1 (search s i t k n fr).2
  | 0, k, n, fr, _, _, h => h
  | t + 1, k, n, fr, h0, h1, h => by
    by_cases hk : 0 ≤ k ∧ (i : Int) - k ≤ 32768
    · obtain ⟨k', rfl⟩ := Int.eq_ofNat_of_zero_le hk.1
      have hc := chainF_b s k'
      by_cases hn : n < agree s k' i 0 520
      · rw [search_more hk.2 hn]
        have ha := agree_le s k' i 520 0 (by omega)
        refine search_find s i hi t _ _ _ hc.1 (by omega) ⟨by omega, ha.2, fun _ => ⟨hk.1, h1, hk.2, fun j hj => ?_⟩⟩
        rw [Int.toNat_natCast]
        exact agree_eq s k' i 520 0 (fun j hj => by omega) j hj
      · rw [search_same hk.2 hn]
        exact search_find s i hi t _ _ _ hc.1 (by omega) h
    · rw [search_end (fun e => hk ⟨e.1, e.2.1⟩)]
      exact h
theorem best_find (s : ByteArray) (i : Nat) (hi : i < s.size) : Find s i (bestF s i).1 (bestF s i).2 := by
  have h0 : Find s i 0 0 := ⟨by omega, by omega, fun h => absurd rfl h⟩
  unfold bestF
  split
  · have hb := headF_b s i (hashF s i)
    exact search_find s i hi 32 _ 0 0 hb.1 hb.2 h0
  · exact h0
end Go.Proofs.YtefhcgnamfnkbaaDoor.Pr
namespace Go.Proofs.YtefhcgnamfnkbaaDoor.Sb
theorem span_match_fin : ∀ n : Fin 521, 3 ≤ n.val → 256 ≤ (matchF n.val).1 ∧ (matchF n.val).1 < 272 ∧ (spanF (matchF n.val).1).1 + (matchF n.val).2.1 = n.val ∧ (spanF (matchF n.val).1).2 = (matchF n.val).2.2 ∧ (matchF n.val).2.1 < 2 ^ (matchF n.val).2.2 ∧ (matchF n.val).2.2 ≤ 8 := by decide +kernel
theorem span_match {n : Nat} (h0 : 3 ≤ n) (h1 : n ≤ 520) : 256 ≤ (matchF n).1 ∧ (matchF n).1 < 272 ∧ (spanF (matchF n).1).1 + (matchF n).2.1 = n ∧ (spanF (matchF n).1).2 = (matchF n).2.2 ∧ (matchF n).2.1 < 2 ^ (matchF n).2.2 ∧ (matchF n).2.2 ≤ 8 := span_match_fin ⟨n, by omega⟩ h0
end Go.Proofs.YtefhcgnamfnkbaaDoor.Sb
namespace Go.Proofs.YtefhcgnamfnkbaaDoor.Pr
open Go.RowKit Go.Proofs.YtefhcgnamfnkbaaDoorW.PrintWords Go.Proofs.YtefhcgnamfnkbaaDoorW.PrintLast Go.Proofs.YtefhcgnamfnkbaaDoorW.PrintMore
open Go.Proofs.YtefhcgnamfnkbaaDoor.Sb
/-- A byte. -/
def bnF (s : ByteArray) (j : Nat) : Nat := (s.data.getD j 0).toNat
theorem byF_bn (s : ByteArray) (j : Nat) : byF s j = (bnF s j : Int) := by
  have h := UInt8.toNat_lt (s.data.getD j 0)
  unfold byF bnF wrap64
  omega
theorem bnF_lt (s : ByteArray) (j : Nat) : bnF s j < 256 := UInt8.toNat_lt _
/-- The first i bytes. -/
def bytesS (s : ByteArray) (i : Nat) : List Nat := (List.range i).map (bnF s)
theorem bytesS_succ (s : ByteArray) (i : Nat) : bytesS s (i + 1) = bytesS s i ++ [bnF s i] := by
  unfold bytesS
  rw [List.range_succ, List.map_append]; rfl
theorem bytesS_length (s : ByteArray) (i : Nat) : (bytesS s i).length = i := by simp [bytesS]
theorem bytesS_at {s : ByteArray} {i j : Nat} (h : j < i) : (bytesS s i).getD j 0 = bnF s j := by
  unfold bytesS
  rw [List.getD_eq_getElem?_getD, List.getElem?_map, List.getElem?_range h]; rfl
/-- n bytes from fr on are written again, one by one. -/
def cpy (out : List Nat) (fr : Nat) : Nat → List Nat
  | 0 => out
  | n + 1 => cpy (out ++ [out.getD fr 0]) (fr + 1) n
theorem cpy_is (s : ByteArray) : ∀ (n i fr : Nat), fr < i → (∀ j, j < n → byF s (fr + j) = byF s (i + j)) → cpy (bytesS s i) fr n = bytesS s (i + n)
  | 0, i, fr, _, _ => rfl
  | n + 1, i, fr, h, e => by
    have e0 := e 0 (by omega)
    rw [byF_bn, byF_bn] at e0
    have e1 : bnF s fr = bnF s i := by have := e0; simp at this; omega
    show cpy (bytesS s i ++ [(bytesS s i).getD fr 0]) (fr + 1) n = _
    rw [bytesS_at h, e1, ← bytesS_succ, cpy_is s n (i + 1) (fr + 1) (by omega) (fun j hj => by
      have := e (j + 1) (by omega)
      rw [show fr + 1 + j = fr + (j + 1) from by omega, show i + 1 + j = i + (j + 1) from by omega]; exact this), show i + 1 + n = i + (n + 1) from by omega]
/-- A token is decoded. -/
def decT (out : List Nat) (t : Tk) : List Nat := if t.y < 256 then out ++ [t.y.toNat] else cpy out (out.length - t.b.toNat - 1) ((spanF t.y.toNat).1 + t.a.toNat)
theorem dec_tok {s : ByteArray} {i : Nat} (hi : i < s.size) : decT (bytesS s i) (tokAt s i) = bytesS s (i + stepAt s i) := by
  have hf := best_find s i hi
  have hb := bnF_lt s i
  unfold tokAt stepAt
  generalize (bestF s i).1 = n at hf
  generalize (bestF s i).2 = fr at hf
  by_cases h3 : n < 3
  · rw [if_pos h3, if_pos h3]
    unfold decT
    have e := byF_bn s i
    rw [if_pos (by show byF s i < 256; omega), bytesS_succ]
    show bytesS s i ++ [(byF s i).toNat] = _
    rw [e, Int.toNat_natCast]
  · rw [if_neg h3, if_neg h3]
    obtain ⟨f0, f1, f2, f3⟩ := hf.same (by omega)
    obtain ⟨m0, m1, m2, m3, m4, m5⟩ := span_match (n := n) (by omega) hf.n520
    obtain ⟨fn, rfl⟩ := Int.eq_ofNat_of_zero_le f0
    unfold decT
    rw [if_neg (by show ¬ ((matchF n).1 : Int) < 256; omega)]
    show cpy (bytesS s i) ((bytesS s i).length - ((i : Int) - (fn : Int) - 1).toNat - 1) ((spanF ((matchF n).1 : Int).toNat).1 + ((matchF n).2.1 : Int).toNat) = _
    rw [Int.toNat_natCast, Int.toNat_natCast, m2, bytesS_length, show i - ((i : Int) - (fn : Int) - 1).toNat - 1 = fn from by omega]
    exact cpy_is s n i fn (by omega) (fun j hj => by have := f3 j hj; rwa [Int.toNat_natCast] at this)
theorem step_room {s : ByteArray} {i : Nat} (hi : i < s.size) : i + stepAt s i ≤ s.size := by
  have hf := best_find s i hi
  unfold stepAt
  split
  · omega
  · exact hf.room
/-- The tokens of a string give it back. -/
theorem dec_all (s : ByteArray) : ∀ (d i : Nat), s.size - i ≤ d → i ≤ s.size → (tokF s i).foldl decT (bytesS s i) = bytesS s s.size
  | 0, i, hd, hi => by
    rw [tokF_no (by omega), show i = s.size by omega]; rfl
  | d + 1, i, hd, hi => by
    by_cases h : i < s.size
    · have h1 := stepAt_pos s i
      rw [tokF_yes h, List.foldl_cons, dec_tok h]
      exact dec_all s d _ (by omega) (step_room h)
    · rw [tokF_no h, show i = s.size by omega]; rfl
end Go.Proofs.YtefhcgnamfnkbaaDoor.Pr
namespace Go.Proofs.YtefhcgnamfnkbaaDoor.Pr
open Go.Proofs.YtefhcgnamfnkbaaDoor.Sb
/-- All bytes are the same. -/
def Mono1 (s : ByteArray) : Prop := ∀ a b, a < s.size → b < s.size → byF s a = byF s b
theorem agree_all {s : ByteArray} (h : Mono1 s) {k i : Nat} (hk : k < i) : ∀ (q m : Nat), i + m ≤ s.size → agree s k i m q = min (m + q) (s.size - i)
  | 0, m, hm => by
    show m = _
    omega
  | q + 1, m, hm => by
    by_cases h1 : i + m < s.size
    · rw [agree_yes h1 (h _ _ (by omega) h1), agree_all h hk q (m + 1) (by omega)]
      congr 1; omega
    · rw [agree_no (fun e => h1 e.1)]
      omega
theorem hash_all {s : ByteArray} (h : Mono1 s) {a b : Nat} (ha : a + 3 ≤ s.size) (hb : b + 3 ≤ s.size) : hashF s a = hashF s b := by
  unfold hashF
  rw [h a b (by omega) (by omega), h (a + 1) (b + 1) (by omega) (by omega), h (a + 2) (b + 2) (by omega) (by omega)]
theorem search_mono (s : ByteArray) (i : Nat) : ∀ (t : Nat) (k : Int) (n : Nat) (fr : Int), n ≤ (search s i t k n fr).1
  | 0, k, n, fr => Nat.le_refl _
  | t + 1, k, n, fr => by
    by_cases hk : 0 ≤ k ∧ (i : Int) - k ≤ 32768
    · obtain ⟨k', rfl⟩ := Int.eq_ofNat_of_zero_le hk.1
      by_cases hn : n < agree s k' i 0 520
      · rw [search_more hk.2 hn]
        exact Nat.le_trans (Nat.le_of_lt hn) (search_mono s i t _ _ _)
      · rw [search_same hk.2 hn]
        exact search_mono s i t _ _ _
    · rw [search_end (fun e => hk ⟨e.1, e.2.1⟩)]
      exact Nat.le_refl _
theorem step_all {s : ByteArray} (h : Mono1 s) {i : Nat} (h1 : 1 ≤ i) (h3 : i + 3 ≤ s.size) : stepAt s i = min 520 (s.size - i) := by
  have hf := best_find s i (by omega)
  obtain ⟨i', rfl⟩ : ∃ i', i = i' + 1 := ⟨i - 1, by omega⟩
  have hh : headF s (i' + 1) (hashF s (i' + 1)) = (i' : Int) := by
    show (if i' + 3 ≤ s.size ∧ hashF s i' = hashF s (i' + 1) then (i' : Int) else headF s i' (hashF s (i' + 1))) = _
    rw [if_pos ⟨by omega, hash_all h (by omega) h3⟩]
  have ha := agree_all h (Nat.lt_succ_self i') 520 0 (by omega)
  have hb : min 520 (s.size - (i' + 1)) ≤ (bestF s (i' + 1)).1 := by
    unfold bestF
    rw [if_pos h3, hh, search_more (t := 31) (by omega) (by rw [ha]; omega), ha, Nat.zero_add]
    exact search_mono s _ 31 _ _ _
  have h5 := hf.n520
  have h6 := hf.room
  unfold stepAt
  rw [if_neg (by omega)]
  omega
set_option maxRecDepth 100000 in
theorem few_tokens {s : ByteArray} (h : Mono1 s) : ∀ (d i : Nat), s.size - i ≤ d → 1 ≤ i → (tokF s i).length * 520 ≤ (s.size - i) + 1560
  | 0, i, hd, h1 => by
    rw [tokF_no (by omega)]
    simp
  | d + 1, i, hd, h1 => by
    by_cases hi : i < s.size
    · have hp := stepAt_pos s i
      rw [tokF_yes hi, List.length_cons]
      by_cases h3 : i + 3 ≤ s.size
      · have hs := step_all h h1 h3
        by_cases h520 : 520 ≤ s.size - i
        · have ih := few_tokens h d (i + stepAt s i) (by omega) (by omega)
          omega
        · rw [tokF_no (by omega)]
          simp
      · by_cases h4 : i + stepAt s i < s.size
        · have hp2 := stepAt_pos s (i + stepAt s i)
          rw [tokF_yes h4, tokF_no (by omega)]
          simp
        · rw [tokF_no h4]
          simp
    · rw [tokF_no hi]
      simp
end Go.Proofs.YtefhcgnamfnkbaaDoor.Pr
