/- squash: what is packed, in plain Lean: the tokens' numbers, the bits, the string. What squash.Pack answers, byte by byte, in plain Lean. A long string of one letter is packed into less than a quarter, in plain Lean. -/
import Derived.Test.YtefhcgnamfnkbaaDoorSyc
import Derived.Test.YtefhcgnamfnkbaaDoorSyb
import Derived.Test.YtefhcgnamfnkbaaDoorSye
import Derived.Test.YtefhcgnamfnkbaaDoorSbk
import Derived.Test.YtefhcgnamfnkbaaDoorSbs
namespace Go.Proofs.YtefhcgnamfnkbaaDoor.Pr
open Go.RowKit
open Go.Proofs.YtefhcgnamfnkbaaDoor.Sb
/-- What is known of the token at i: a byte, or a match that lies behind. -/
theorem tok_cases {s : ByteArray} {i : Nat} (hi : i < s.size) :
    (tokAt s i = ⟨(bnF s i : Int), 0, 0, 0⟩ ∧ stepAt s i = 1) ∨
    ∃ y a x b f : Nat, tokAt s i = ⟨(y : Int), (a : Int), (x : Int), (b : Int)⟩ ∧ 256 ≤ y ∧ y < 272 ∧ (spanF y).1 + a = stepAt s i ∧ (spanF y).2 = x ∧ a < 2 ^ x ∧ x ≤ 8 ∧ b < 32768 ∧ f + b + 1 = i ∧ (∀ j, j < stepAt s i → bnF s (f + j) = bnF s (i + j)) ∧ i + stepAt s i ≤ s.size := by
  have hf := best_find s i hi
  unfold tokAt stepAt
  generalize (bestF s i).1 = n at hf
  generalize (bestF s i).2 = fr at hf
  by_cases h3 : n < 3
  · rw [if_pos h3, if_pos h3, byF_bn]
    exact .inl ⟨rfl, rfl⟩
  · rw [if_neg h3, if_neg h3]
    obtain ⟨f0, f1, f2, f3⟩ := hf.same (by omega)
    obtain ⟨m0, m1, m2, m3, m4, m5⟩ := span_match (n := n) (by omega) hf.n520
    obtain ⟨fn, rfl⟩ := Int.eq_ofNat_of_zero_le f0
    refine .inr ⟨(matchF n).1, (matchF n).2.1, (matchF n).2.2, i - fn - 1, fn, ?_, m0, m1, m2, m3, m4, m5, by omega, by omega, fun j hj => ?_, hf.room⟩
    · have e : ((i - fn - 1 : Nat) : Int) = (i : Int) - (fn : Int) - 1 := by omega
      rw [e]
    · have h4 := f3 j hj
      rw [Int.toNat_natCast, byF_bn, byF_bn] at h4
      omega
theorem tok_mem {s : ByteArray} : ∀ (d i : Nat), s.size - i ≤ d → ∀ t ∈ tokF s i, ∃ j, i ≤ j ∧ j < s.size ∧ t = tokAt s j
  | 0, i, hd, t, ht => by
    rw [tokF_no (by omega)] at ht
    simp at ht
  | d + 1, i, hd, t, ht => by
    by_cases h : i < s.size
    · have hp := stepAt_pos s i
      rw [tokF_yes h] at ht
      rcases List.mem_cons.1 ht with rfl | ht
      · exact ⟨i, Nat.le_refl _, h, rfl⟩
      · obtain ⟨j, h1, h2, h3⟩ := tok_mem d _ (by omega) t ht
        exact ⟨j, by omega, h2, h3⟩
    · rw [tokF_no h] at ht
      simp at ht
theorem tok_at {s : ByteArray} {t : Tk} (h : t ∈ tokF s 0) : ∃ j, j < s.size ∧ t = tokAt s j := by
  obtain ⟨j, _, h2, h3⟩ := tok_mem s.size 0 (by omega) t h
  exact ⟨j, h2, h3⟩
theorem tok_good {s : ByteArray} {t : Tk} (h : t ∈ tokF s 0) : GoodT t := by
  obtain ⟨j, hj, rfl⟩ := tok_at h
  rcases tok_cases hj with ⟨e, _⟩ | ⟨y, a, x, b, f, e, h1, h2, h3, h4, h5, h6, _⟩
  · have hb := bnF_lt s j
    rw [e]
    exact ⟨by show 0 ≤ (bnF s j : Int); omega, by show (bnF s j : Int) < 272; omega, by show (0 : Int) ≤ 0; omega, by show (0 : Int) ≤ 8; omega⟩
  · rw [e]
    exact ⟨by show 0 ≤ (y : Int); omega, by show (y : Int) < 272; omega, by show 0 ≤ (x : Int); omega, by show (x : Int) ≤ 8; omega⟩
theorem tok_len {s : ByteArray} : ∀ (d i : Nat), s.size - i ≤ d → (tokF s i).length ≤ s.size - i
  | 0, i, hd => by
    rw [tokF_no (by omega)]
    simp
  | d + 1, i, hd => by
    by_cases h : i < s.size
    · have hp := stepAt_pos s i
      have ih := tok_len (s := s) d (i + stepAt s i) (by omega)
      rw [tokF_yes h, List.length_cons]
      omega
    · rw [tokF_no h]
      simp
theorem tok_some {s : ByteArray} (h : 0 < s.size) : 0 < (tokF s 0).length := by
  rw [tokF_yes h, List.length_cons]
  omega
/-- The lengths of a string's symbols. -/
def lnS (s : ByteArray) : Nat → Nat := lensOf (used (syms (tokF s 0)) 272)
theorem lnS_le (s : ByteArray) (y : Nat) : lnS s y ≤ 15 := lensOf_le (used_nodup _ _) y
theorem lnS_sum (s : ByteArray) : sumTo (lnS s) 15 ≤ 32768 := kraft_sum _
theorem sym_used {ys : List Nat} {y : Nat} (h : y ∈ ys) (hy : y < 272) : (y, ys.count y) ∈ used ys 272 :=
  List.mem_map.2 ⟨y, List.mem_filter.2 ⟨List.mem_range.2 hy, decide_eq_true (List.count_pos_iff.2 h)⟩, rfl⟩
theorem lens_in {ys : List Nat} {y : Nat} (h : y ∈ ys) (hy : y < 272) : 1 ≤ lensOf (used ys 272) y := by
  have hm := sym_used h hy
  have hl := used_length ys 272
  have hp : ∀ u ∈ used ys 272, 0 < u.2 := fun u hu => by
    unfold used at hu
    obtain ⟨j, hj, rfl⟩ := List.mem_map.1 hu
    simpa using (List.mem_filter.1 hj).2
  rcases Nat.lt_or_ge (used ys 272).length 2 with h1 | h1
  · have h0 := List.length_pos_of_mem hm
    have h2 : (used ys 272).length = 1 := by omega
    unfold lensOf
    rw [if_pos h2]
    match used ys 272, h2, hm with
    | [u], _, hm =>
      have : u = (y, ys.count y) := (List.mem_singleton.1 hm).symm
      subst this
      simp
  · exact lens_pos hp h1 hl hm
theorem lnS_pos {s : ByteArray} {t : Tk} (h : t ∈ tokF s 0) : 1 ≤ lnS s t.y.toNat := by
  obtain ⟨g0, g1, _⟩ := tok_good h
  exact lens_in (List.mem_map.2 ⟨t, h, rfl⟩) (by omega)
/-- The bits of a token. -/
def tkBits (ln : Nat → Nat) (t : Tk) : List Bool := kb (codeOf ln t.y.toNat) (ln t.y.toNat) ++ (if 256 ≤ t.y then kb t.a.toNat t.x.toNat ++ kb t.b.toNat 15 else [])
theorem tkBits_len {s : ByteArray} {t : Tk} (h : t ∈ tokF s 0) : (tkBits (lnS s) t).length ≤ 38 := by
  have h1 := lnS_le s t.y.toNat
  obtain ⟨_, _, x0, x8⟩ := tok_good h
  unfold tkBits
  rw [List.length_append, kb_length]
  split
  · rw [List.length_append, kb_length, kb_length]; omega
  · simp; omega
/-- The bits of the first e lengths. -/
def headB (ln : Nat → Nat) : Nat → List Bool
  | 0 => []
  | e + 1 => headB ln e ++ kb (ln e) 4
theorem headB_len (ln : Nat → Nat) : ∀ e, (headB ln e).length = 4 * e
  | 0 => rfl
  | e + 1 => by
    show (headB ln e ++ kb (ln e) 4).length = _
    rw [List.length_append, headB_len ln e, kb_length]; omega
theorem headB_at (ln : Nat → Nat) {i : Nat} : ∀ {e : Nat}, i < e → ∃ tl, headB ln e = headB ln i ++ (kb (ln i) 4 ++ tl)
  | 0, h => by omega
  | e + 1, h => by
    by_cases he : i = e
    · subst he
      exact ⟨[], by rw [List.append_nil]; rfl⟩
    · obtain ⟨tl, e1⟩ := headB_at ln (i := i) (e := e) (by omega)
      refine ⟨tl ++ kb (ln e) 4, ?_⟩
      show headB ln e ++ kb (ln e) 4 = _
      rw [e1, List.append_assoc, List.append_assoc]
/-- The bits of tokens. -/
def tokB (ln : Nat → Nat) (ts : List Tk) : List Bool := ts.flatMap (tkBits ln)
theorem tokB_cons (ln : Nat → Nat) (t : Tk) (ts : List Tk) : tokB ln (t :: ts) = tkBits ln t ++ tokB ln ts := List.flatMap_cons
theorem tokB_app (ln : Nat → Nat) (ts us : List Tk) : tokB ln (ts ++ us) = tokB ln ts ++ tokB ln us := List.flatMap_append
theorem tokB_len_of {s : ByteArray} : ∀ ts : List Tk, (∀ t ∈ ts, t ∈ tokF s 0) → (tokB (lnS s) ts).length ≤ 38 * ts.length
  | [], _ => by simp [tokB]
  | t :: ts, h => by
    have h1 := tkBits_len (h t (List.mem_cons_self ..))
    have h2 := tokB_len_of ts (fun u hu => h u (List.mem_cons_of_mem _ hu))
    rw [tokB_cons, List.length_append, List.length_cons]
    omega
/-- All bits. -/
def allB (s : ByteArray) : List Bool := headB (lnS s) 272 ++ tokB (lnS s) (tokF s 0)
theorem allB_len (s : ByteArray) : (allB s).length = 1088 + (tokB (lnS s) (tokF s 0)).length := by
  unfold allB
  rw [List.length_append, headB_len]
theorem allB_le (s : ByteArray) : (allB s).length ≤ 1088 + 38 * (tokF s 0).length := by
  have h := tokB_len_of (s := s) (tokF s 0) (fun t h => h)
  rw [allB_len]
  omega
/-- The first five bytes. -/
def hdF (s : ByteArray) (m : Int) : List Int := [(s.size : Int) / 16777216, (s.size : Int) / 65536, (s.size : Int) / 256, (s.size : Int) % 256, m]
/-- What squash.Pack answers. -/
def packF (s : ByteArray) : ByteArray := if (bytesOf (allB s)).length < s.size then strOfNums (hdF s 1 ++ bi (bytesOf (allB s))) else strOfNums (hdF s 0) ++ s
/-- A string that holds bits, the last byte filled with 0. -/
structure Holds (r : ByteArray) (bs : List Bool) : Prop where
  size : r.size = (bs.length + 7) / 8
  bits : ∀ j, rb r j = bt1 bs j
theorem Holds.lies {r : ByteArray} {bs : List Bool} (h : Holds r bs) : Lies r 0 bs := fun j _ => by rw [Nat.zero_add]; exact h.bits j
theorem str_getD (l : List Nat) (j : Nat) : ((strOfNums (bi l)).data.getD j 0).toNat = l.getD j 0 % 256 := by
  have e : (strOfNums (bi l)).data = (l.map fun x => UInt8.ofNat x).toArray := by
    unfold strOfNums bi
    rw [List.map_map]
    rfl
  rw [e, Array.getD_eq_getD_getElem?, List.getElem?_toArray, List.getElem?_map, List.getD_eq_getElem?_getD]
  cases l[j]? <;> simp
theorem holds_bytes (bs : List Bool) : Holds (strOfNums (bi (bytesOf bs))) bs := by
  refine ⟨by rw [strOf_size, bi_len, bytesOf_length], fun j => ?_⟩
  unfold rb
  rw [str_getD]
  have hj : 8 * (j / 8) + j % 8 = j := Nat.div_add_mod j 8
  have hr : j % 8 < 8 := Nat.mod_lt _ (by omega)
  rcases Nat.lt_or_ge (j / 8) ((bs.length + 7) / 8) with h | h
  · rw [List.getD_eq_getElem?_getD, bytesOf_at h, Option.getD_some, Nat.mod_eq_of_lt (byteAt_lt bs _), byteAt_read bs _ hr, hj]
  · rw [List.getD_eq_getElem?_getD, List.getElem?_eq_none (by rw [bytesOf_length]; exact h), Option.getD_none, bt1_far (by omega)]
    simp
/-- A string's part. -/
theorem rb_extract (r : ByteArray) (k : Nat) (hk : k ≤ r.size) (j : Nat) : rb (r.extract k r.size) j = rb r (8 * k + j) := by
  have e : (r.extract k r.size).data = r.data.extract k r.size := by simp
  unfold rb
  rw [e, Array.getD_eq_getD_getElem?, Array.getD_eq_getD_getElem?, Array.getElem?_extract, show (8 * k + j) / 8 = k + j / 8 by omega, show (8 * k + j) % 8 = j % 8 by omega]
  have hs : r.data.size = r.size := rfl
  by_cases h : j / 8 < r.size - k
  · rw [if_pos (by rw [hs]; omega)]
  · rw [if_neg (by rw [hs]; omega), Array.getElem?_eq_none (by rw [hs]; omega)]
theorem bt1_right (a b : List Bool) (j : Nat) : bt1 (a ++ b) (a.length + j) = bt1 b j := by
  unfold bt1
  rw [List.getD_eq_getElem?_getD, List.getD_eq_getElem?_getD, List.getElem?_append_right (by omega), Nat.add_sub_cancel_left]
theorem Holds.rest {r : ByteArray} {a b : List Bool} {k : Nat} (h : Holds r (a ++ b)) (ha : a.length = 8 * k) (hk : k ≤ r.size) : Holds (r.extract k r.size) b := by
  refine ⟨?_, fun j => ?_⟩
  · have h1 := h.size
    rw [List.length_append] at h1
    have h2 : (r.extract k r.size).size = r.size - k := by simp
    rw [h2, h1]
    omega
  · rw [rb_extract r k hk, h.bits, ← ha, bt1_right]
/-- A length is read. -/
theorem nib (bs : List Bool) (q : Nat) : byteAt bs q / 2 ^ 4 % 16 = 8 * bt1 bs (8 * q) + 4 * bt1 bs (8 * q + 1) + 2 * bt1 bs (8 * q + 2) + bt1 bs (8 * q + 3) ∧ byteAt bs q % 16 = 8 * bt1 bs (8 * q + 4) + 4 * bt1 bs (8 * q + 5) + 2 * bt1 bs (8 * q + 6) + bt1 bs (8 * q + 7) := by
  have h0 := bt1_le bs (8 * q); have h1 := bt1_le bs (8 * q + 1); have h2 := bt1_le bs (8 * q + 2); have h3 := bt1_le bs (8 * q + 3)
  have h4 := bt1_le bs (8 * q + 4); have h5 := bt1_le bs (8 * q + 5); have h6 := bt1_le bs (8 * q + 6); have h7 := bt1_le bs (8 * q + 7)
  unfold byteAt
  omega
theorem byte_nib {r : ByteArray} {i v : Nat} (hv : v < 16) (h : Lies r (4 * i) (kb v 4)) : (r.data.getD (i / 2) 0).toNat / 2 ^ (4 - 4 * (i % 2)) % 16 = v := by
  have hn := numF_all hv (n := 4) h.num
  have e : numF r (4 * i) 4 = 2 * (2 * (2 * (2 * 0 + rb r (4 * i + 0)) + rb r (4 * i + 1)) + rb r (4 * i + 2)) + rb r (4 * i + 3) := rfl
  rw [e] at hn
  unfold rb at hn
  have hB := UInt8.toNat_lt (r.data.getD (i / 2) 0)
  rcases Nat.mod_two_eq_zero_or_one i with h2 | h2
  · have g0 : (4 * i + 0) / 8 = i / 2 := by omega
    have g1 : (4 * i + 1) / 8 = i / 2 := by omega
    have g2 : (4 * i + 2) / 8 = i / 2 := by omega
    have g3 : (4 * i + 3) / 8 = i / 2 := by omega
    have k0 : (4 * i + 0) % 8 = 0 := by omega
    have k1 : (4 * i + 1) % 8 = 1 := by omega
    have k2 : (4 * i + 2) % 8 = 2 := by omega
    have k3 : (4 * i + 3) % 8 = 3 := by omega
    rw [g0, g1, g2, g3, k0, k1, k2, k3] at hn
    rw [h2]
    generalize (r.data.getD (i / 2) 0).toNat = B at *
    show B / 16 % 16 = v
    have hn' : 2 * (2 * (2 * (2 * 0 + B / 128 % 2) + B / 64 % 2) + B / 32 % 2) + B / 16 % 2 = v := hn
    omega
  · have g0 : (4 * i + 0) / 8 = i / 2 := by omega
    have g1 : (4 * i + 1) / 8 = i / 2 := by omega
    have g2 : (4 * i + 2) / 8 = i / 2 := by omega
    have g3 : (4 * i + 3) / 8 = i / 2 := by omega
    have k0 : (4 * i + 0) % 8 = 4 := by omega
    have k1 : (4 * i + 1) % 8 = 5 := by omega
    have k2 : (4 * i + 2) % 8 = 6 := by omega
    have k3 : (4 * i + 3) % 8 = 7 := by omega
    rw [g0, g1, g2, g3, k0, k1, k2, k3] at hn
    rw [h2]
    generalize (r.data.getD (i / 2) 0).toNat = B at *
    show B / 1 % 16 = v
    have hn' : 2 * (2 * (2 * (2 * 0 + B / 8 % 2) + B / 4 % 2) + B / 2 % 2) + B / 1 % 2 = v := hn
    omega
/-- The lengths stand at the string's beginning. -/
theorem Holds.len {r : ByteArray} {ln : Nat → Nat} {b : List Bool} (h : Holds r (headB ln 272 ++ b)) (hl : ∀ y, ln y ≤ 15) {i : Nat} (hi : i < 272) : (r.data.getD (i / 2) 0).toNat / 2 ^ (4 - 4 * (i % 2)) % 16 = ln i := by
  obtain ⟨tl, e⟩ := headB_at ln hi
  have h1 := h.lies
  rw [e, List.append_assoc] at h1
  have h2 := h1.right
  rw [headB_len, Nat.zero_add, List.append_assoc] at h2
  exact byte_nib (by have := hl i; omega) h2.left
/-- A symbol's code is read as such. -/
theorem sym_reads {r : ByteArray} {ln : Nat → Nat} {i y m : Nat} (hK : sumTo ln 15 ≤ 32768) (hm : ln y = m) (h1 : 1 ≤ m) (h15 : m ≤ 15) (hy : y < 272) (h : Lies r i (kb (codeOf ln y) m)) :
    numF r i m = fstC ln m + cntL ln m y ∧ ∀ e, 1 ≤ e → e < m → fstC ln e + ofLen ln e ≤ numF r i e := by
  have hc : codeOf ln y = fstC ln m + cntL ln m y := by
    unfold codeOf
    rw [if_pos (by omega), hm]
  have hc0 : cntL ln m y < ofLen ln m := by
    have h2 := (List.getElem?_eq_some_iff.1 (symsOf_at hm hy)).1
    rw [symsOf_length] at h2
    unfold ofLen
    rw [if_neg (by omega)]; exact h2
  have hf := code_fits hK h15
  rw [hc] at h
  have hk : fstC ln m + cntL ln m y < 2 ^ m := by omega
  refine ⟨numF_all hk h.num, fun e he1 he2 => ?_⟩
  rw [numF_bits hk h.num e (by omega)]
  exact prefix_behind he2 (by omega)
end Go.Proofs.YtefhcgnamfnkbaaDoor.Pr
namespace Go.Proofs.YtefhcgnamfnkbaaDoor.Pr
open Go.RowKit
open Go.Proofs.YtefhcgnamfnkbaaDoor.Sb
theorem str_app (l m : List Int) : strOfNums (l ++ m) = strOfNums l ++ strOfNums m := by
  refine ByteArray.ext ?_
  rw [ByteArray.data_append]
  simp [strOfNums]
theorem app_extract (a b : ByteArray) : (a ++ b).extract a.size (a ++ b).size = b := ByteArray.extract_append_eq_right rfl ByteArray.size_append
/-- The five bytes ahead. -/
structure Five (P X : ByteArray) (n m : Nat) : Prop where
  lt : 5 ≤ P.size
  b0 : (P[0]'(by omega)).toNat = 0
  b1 : (P[1]'(by omega)).toNat = 0
  num : 256 * (P[2]'(by omega)).toNat + (P[3]'(by omega)).toNat = n
  b4 : (P[4]'(by omega)).toNat = m
  rest : P.extract 5 P.size = X
  size : P.size = X.size + 5
theorem five {s X : ByteArray} (m : Nat) (hs : s.size ≤ 4000) (hm : m ≤ 1) : Five (strOfNums (hdF s (m : Int)) ++ X) X s.size m := by
  have hz : (strOfNums (hdF s (m : Int))).size = 5 := by rw [strOf_size]; rfl
  have hz2 : (strOfNums (hdF s (m : Int)) ++ X).size = X.size + 5 := by rw [ByteArray.size_append, hz]; omega
  have hb : ∀ (k : Nat) (hk : k < 5), ((strOfNums (hdF s (m : Int)) ++ X)[k]'(by omega)).toNat = ((hdF s (m : Int)).getD k 0).toNat % 256 := fun k hk => by
    rw [ByteArray.getElem_append_left (by omega)]
    show ((strOfNums (hdF s (m : Int))).data[k]'(by show k < (strOfNums (hdF s (m : Int))).size; omega)).toNat = _
    have : k = 0 ∨ k = 1 ∨ k = 2 ∨ k = 3 ∨ k = 4 := by omega
    rcases this with rfl | rfl | rfl | rfl | rfl <;> simp [strOfNums, hdF]
  refine ⟨by omega, ?_, ?_, ?_, ?_, ?_, hz2⟩
  · rw [hb 0 (by omega)]; show ((s.size : Int) / 16777216).toNat % 256 = 0; omega
  · rw [hb 1 (by omega)]; show ((s.size : Int) / 65536).toNat % 256 = 0; omega
  · rw [hb 2 (by omega), hb 3 (by omega)]; show 256 * (((s.size : Int) / 256).toNat % 256) + ((s.size : Int) % 256).toNat % 256 = s.size; omega
  · rw [hb 4 (by omega)]; show (m : Int).toNat % 256 = m; omega
  · have h5 := app_extract (strOfNums (hdF s (m : Int))) X
    rw [hz] at h5
    exact h5
theorem pack_parts {s : ByteArray} (hs : s.size ≤ 4000) : (Five (packF s) s s.size 0) ∨ (∃ T, Five (packF s) T s.size 1 ∧ Holds T (allB s) ∧ T.size < s.size) := by
  unfold packF
  by_cases h : (bytesOf (allB s)).length < s.size
  · rw [if_pos h, str_app]
    have hh := holds_bytes (allB s)
    exact .inr ⟨_, five 1 hs (by omega), hh, by rw [hh.size, ← bytesOf_length]; exact h⟩
  · rw [if_neg h]
    exact .inl (five 0 hs (by omega))
theorem pack_le {s : ByteArray} (hs : s.size ≤ 4000) : (packF s).size ≤ s.size + 5 := by
  rcases pack_parts hs with h | ⟨T, h, _, h2⟩
  · exact Nat.le_of_eq h.size
  · rw [h.size]; omega
end Go.Proofs.YtefhcgnamfnkbaaDoor.Pr
namespace Go.Proofs.YtefhcgnamfnkbaaDoor.Pr
open Go.RowKit
open Go.Proofs.YtefhcgnamfnkbaaDoor.Sb
theorem few_all {s : ByteArray} (h : Mono1 s) (hs : 1 ≤ s.size) : ((tokF s 0).length - 1) * 520 ≤ s.size + 1559 := by
  have hp := stepAt_pos s 0
  have hf := few_tokens h s.size (0 + stepAt s 0) (by omega) (by omega)
  rw [tokF_yes (by omega), List.length_cons, Nat.add_sub_cancel]
  omega
theorem quarter {s : ByteArray} (h : Mono1 s) (h1 : 1000 ≤ s.size) (h4 : s.size ≤ 4000) : 4 * (packF s).size < s.size := by
  have hf := few_all h (by omega)
  have hl := allB_le s
  have hb : (bytesOf (allB s)).length < s.size := by
    rw [bytesOf_length]
    omega
  unfold packF
  rw [if_pos hb, strOf_size, List.length_append, bi_len]
  show 4 * (5 + (bytesOf (allB s)).length) < s.size
  rw [bytesOf_length]
  omega
end Go.Proofs.YtefhcgnamfnkbaaDoor.Pr
