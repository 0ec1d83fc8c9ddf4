/- The tokens of a formula, on lists of bytes: the first token. -/
import Derived.Test.YtefhcgnamfnkbaaDoorPureScan1
namespace Go.Proofs.YtefhcgnamfnkbaaDoor.Pure
open Go.RowKit Go.Proofs.YtefhcgnamfnkbaaDoor.Pr Go.Proofs.YtefhcgnamfnkbaaDoorW.PrintWords Go.Proofs.YtefhcgnamfnkbaaDoorW.PrintLast
open Go.Proofs.YtefhcgnamfnkbaaDoor

/-! ### What stands between two marks -/
def qz (mk : UInt8) : List UInt8 → Nat
  | [] => 0
  | [c] => if c = mk then 1 else 0
  | c :: d :: r => if c = mk then (if d = mk then (if qz mk r = 0 then 0 else qz mk r + 2) else 1) else (if qz mk (d :: r) = 0 then 0 else qz mk (d :: r) + 1)
def quotedL (mk : UInt8) (l : List UInt8) : Nat := if qz mk (l.drop 1) = 0 then 0 else qz mk (l.drop 1) + 1
theorem quoted_l0 (mk : UInt8) (l : List UInt8) (hl : l.length ≤ 2000000) (N : Nat) : ∀ (d k i : Nat), d ≤ N → i + d = l.length → d < k →
    fscan_quoted.l0 k (B l) (mk.toNat : Int) (i : Int) = some ((if qz mk (l.drop i) = 0 then 0 else i + qz mk (l.drop i) : Nat) : Int) := by
  induction N with
  | zero =>
    intro d k i hd hi hk
    obtain ⟨k, rfl⟩ : ∃ q, k = q + 1 := ⟨k - 1, by omega⟩
    simp only [fscan_quoted.l0]
    rw [if_neg (by rw [B_size]; omega), List.drop_of_length_le (by omega)]
    rfl
  | succ N ih =>
    intro d k i hd hi hk
    rcases Nat.eq_zero_or_pos d with h0 | h0
    · subst h0
      obtain ⟨k, rfl⟩ : ∃ q, k = q + 1 := ⟨k - 1, by omega⟩
      simp only [fscan_quoted.l0]
      rw [if_neg (by rw [B_size]; omega), List.drop_of_length_le (by omega)]
      rfl
    · obtain ⟨k, rfl⟩ : ∃ q, k = q + 1 := ⟨k - 1, by omega⟩
      have hi2 : i < l.length := by omega
      have e0 : (bt (B l) (i : Int) = (mk.toNat : Int)) ↔ l[i] = mk := by rw [btq l i hi2, List.getElem?_eq_getElem hi2, Option.some.injEq]
      simp only [fscan_quoted.l0]
      rw [if_pos (by rw [B_size]; omega), if_pos (by omega), wr_1 i (by omega)]
      have hdr := List.drop_eq_getElem_cons hi2
      by_cases h1 : i + 1 < l.length
      · have e1 : (bt (B l) ((i + 1 : Nat) : Int) = (mk.toNat : Int)) ↔ l[i + 1] = mk := by rw [btq l (i + 1) h1, List.getElem?_eq_getElem h1, Option.some.injEq]
        have hdr1 := List.drop_eq_getElem_cons h1
        rw [hdr, hdr1]
        by_cases hc : l[i] = mk
        · rw [if_pos (e0.2 hc), if_pos (by rw [B_size]; omega), if_pos (by omega)]
          by_cases hd1 : l[i + 1] = mk
          · rw [if_pos (e1.2 hd1), wr_1 (i + 1) (by omega)]
            rw [ih (d - 2) k (i + 1 + 1) (by omega) (by omega) (by omega)]
            simp only [qz, hc, hd1, if_true]
            by_cases hz : qz mk (l.drop (i + 1 + 1)) = 0
            · simp [hz]
            · simp only [hz, if_false]
              rw [if_neg (by omega)]
              congr 1; omega
          · rw [if_neg (fun h => hd1 (e1.1 h))]
            simp only [qz, hc, hd1, if_true, if_false]
            rfl
        · rw [if_neg (fun h => hc (e0.1 h))]
          rw [ih (d - 1) k (i + 1) (by omega) (by omega) (by omega)]
          rw [hdr1]
          simp only [qz, hc, if_false]
          generalize qz mk (l[i + 1] :: l.drop (i + 1 + 1)) = z
          congr 2
          by_cases hz : z = 0
          · rw [if_pos hz, if_pos hz, if_pos rfl]
          · rw [if_neg hz, if_neg hz, if_neg (by omega)]; omega
      · have hdr1 : l.drop (i + 1) = [] := List.drop_of_length_le (by omega)
        rw [hdr, hdr1]
        by_cases hc : l[i] = mk
        · rw [if_pos (e0.2 hc), if_neg (by rw [B_size]; omega)]
          simp only [qz, hc, if_true]
          rfl
        · rw [if_neg (fun h => hc (e0.1 h))]
          rw [ih (d - 1) k (i + 1) (by omega) (by omega) (by omega), hdr1]
          simp only [qz, hc, if_false]
          rfl
theorem quoted_eq (mk : UInt8) (k : Nat) (l : List UInt8) (hl : l.length ≤ 2000000) (h1 : 1 ≤ l.length) (hk : l.length < k) : fscan_quoted.f k (B l) (mk.toNat : Int) = some ((quotedL mk l : Nat) : Int) := by
  unfold fscan_quoted.f quotedL
  have := quoted_l0 mk l hl l.length (l.length - 1) k 1 (by omega) (by omega) (by omega)
  rw [show ((1 : Nat) : Int) = 1 from rfl] at this
  rw [this]
  congr 2
  split <;> omega

/-! ### Brackets -/
def bz (d : Int) : List UInt8 → Nat
  | [] => 0
  | c :: r =>
    if (if c = 91 then d + 1 else if c = 93 then d - 1 else d) = 0 then 1
    else if bz (if c = 91 then d + 1 else if c = 93 then d - 1 else d) r = 0 then 0 else bz (if c = 91 then d + 1 else if c = 93 then d - 1 else d) r + 1
theorem brackets_l0 (l : List UInt8) (hl : l.length ≤ 2000000) (n : Nat) : ∀ (k i : Nat) (d : Int), i + n = l.length → n < k → -(i : Int) ≤ d → d ≤ (i : Int) →
    fscan_brackets.l0 k (B l) d (l.length : Int) (i : Int) = some ((if bz d (l.drop i) = 0 then 0 else i + bz d (l.drop i) : Nat) : Int) := by
  induction n with
  | zero =>
    intro k i d hi hk _ _
    obtain ⟨k, rfl⟩ : ∃ q, k = q + 1 := ⟨k - 1, by omega⟩
    simp only [fscan_brackets.l0]
    rw [if_neg (by omega), List.drop_of_length_le (by omega)]
    rfl
  | succ n ih =>
    intro k i d hi hk h1 h2
    obtain ⟨k, rfl⟩ : ∃ q, k = q + 1 := ⟨k - 1, by omega⟩
    have hi2 : i < l.length := by omega
    have e1 : (bt (B l) (i : Int) = 91) ↔ l[i] = 91 := by
      have := btq l i hi2 91
      rw [List.getElem?_eq_getElem hi2, Option.some.injEq] at this
      exact this
    have e2 : (bt (B l) (i : Int) = 93) ↔ l[i] = 93 := by
      have := btq l i hi2 93
      rw [List.getElem?_eq_getElem hi2, Option.some.injEq] at this
      exact this
    have hdr := List.drop_eq_getElem_cons hi2
    have w1 : wrap64 (d + 1) = d + 1 := by unfold wrap64; omega
    have w2 : wrap64 (d - 1) = d - 1 := by unfold wrap64; omega
    have fin : ∀ e : Int, -((i + 1 : Nat) : Int) ≤ e → e ≤ ((i + 1 : Nat) : Int) →
        (if e = 0 then some (wrap64 ((i : Int) + 1)) else fscan_brackets.l0 k (B l) e (l.length : Int) (wrap64 ((i : Int) + 1))) =
          some ((if (if e = 0 then 1 else if bz e (l.drop (i + 1)) = 0 then 0 else bz e (l.drop (i + 1)) + 1) = 0 then 0 else i + (if e = 0 then 1 else if bz e (l.drop (i + 1)) = 0 then 0 else bz e (l.drop (i + 1)) + 1) : Nat) : Int) := by
      intro e he1 he2
      rw [wr_1 i (by omega)]
      by_cases h0 : e = 0
      · simp [h0]
      · rw [if_neg h0, if_neg h0, ih k (i + 1) e (by omega) (by omega) he1 he2]
        by_cases hz : bz e (l.drop (i + 1)) = 0
        · simp [hz]
        · simp only [hz, if_false]
          rw [if_neg (by omega)]
          congr 1; omega
    simp only [fscan_brackets.l0]
    rw [if_pos (by omega), if_pos (by omega), if_pos (by rw [B_size]; omega), hdr, w1, w2]
    by_cases c1 : l[i] = 91
    · rw [if_pos (e1.2 c1), fin (d + 1) (by omega) (by omega)]
      simp only [bz, c1, if_true]
    · rw [if_neg (fun h => c1 (e1.1 h))]
      by_cases c2 : l[i] = 93
      · rw [if_pos (e2.2 c2), fin (d - 1) (by omega) (by omega)]
        simp only [bz, c2, if_true]
        rfl
      · rw [if_neg (fun h => c2 (e2.1 h)), fin d (by omega) (by omega)]
        simp only [bz, c1, c2, if_false]
theorem brackets_eq (k : Nat) (l : List UInt8) (hl : l.length ≤ 2000000) (hk : l.length < k) : fscan_brackets.f k (B l) = some ((bz 0 l : Nat) : Int) := by
  unfold fscan_brackets.f
  have := brackets_l0 l hl l.length k 0 0 (by omega) (by omega) (by omega) (by omega)
  rw [show ((0 : Nat) : Int) = 0 from rfl, List.drop_zero] at this
  rw [B_size, this]
  congr 2
  split <;> omega

/-! ### Words -/
theorem plain_step2 (k : Nat) (s : ByteArray) (i : Nat) (hs : s.size ≤ 2000000) (h : i < s.size) :
    (∃ b, cellref_Plain.l0 (k + 1) s (s.size : Int) (i : Int) = some b) ∨ cellref_Plain.l0 (k + 1) s (s.size : Int) (i : Int) = cellref_Plain.l0 k s (s.size : Int) ((i + 1 : Nat) : Int) := by
  simp only [cellref_Plain.l0]
  rw [if_pos (by omega), if_pos (by omega), if_pos (by omega), bt_nat s i h, letter_isL, digit_isD, wr_1 i (by omega)]
  simp only [Option.bind_some]
  repeat' split
  all_goals first | exact .inr rfl | exact .inl ⟨_, rfl⟩
theorem plain_tot2 (s : ByteArray) (hs : s.size ≤ 2000000) : ∀ (d k i : Nat), i + d = s.size → d < k → ∃ b, cellref_Plain.l0 k s (s.size : Int) (i : Int) = some b := by
  intro d
  induction d with
  | zero =>
    intro k i hi hk
    obtain ⟨k, rfl⟩ : ∃ q, k = q + 1 := ⟨k - 1, by omega⟩
    exact ⟨_, plain_end k s i (by omega)⟩
  | succ d ih =>
    intro k i hi hk
    obtain ⟨k, rfl⟩ : ∃ q, k = q + 1 := ⟨k - 1, by omega⟩
    rcases plain_step2 k s i hs (by omega) with h | h
    · exact h
    · rw [h]; exact ih k (i + 1) (by omega) (by omega)
def plainL (w : List UInt8) : Bool := match cellref_Plain.f (w.length + 1) (B w) with | some b => b | none => false
theorem plain_up (s : ByteArray) (k : Nat) (b : Bool) (h : cellref_Plain.f k s = some b) : ∀ d, cellref_Plain.f (k + d) s = some b
  | 0 => h
  | d + 1 => cellref_Plain.mono s (k + d) b (plain_up s k b h d)
theorem plain_eq (w : List UInt8) (hw : w.length ≤ 2000000) (k : Nat) (hk : w.length + 1 ≤ k) : cellref_Plain.f k (B w) = some (plainL w) := by
  obtain ⟨b, hb⟩ := plain_tot2 (B w) (by rw [B_size]; exact hw) w.length (w.length + 1) 0 (by rw [B_size]; omega) (by omega)
  have hb2 : cellref_Plain.f (w.length + 1) (B w) = some b := hb
  have hu := plain_up (B w) _ b hb2 (k - (w.length + 1))
  rw [show w.length + 1 + (k - (w.length + 1)) = k by omega] at hu
  unfold plainL
  rw [hu, hb2]
def freeL (w : List UInt8) : Bool := !decide ((36 : UInt8) ∈ w)
theorem contains_eq (w : List UInt8) (hw : w.length ≤ 2000000) : strings_Contains.f (B w) ⟨#[36]⟩ = some (!freeL w) := by
  unfold strings_Contains.f freeL
  rw [if_pos (by rw [B_size]; omega)]
  show some (Lib.contains w [36]) = _
  unfold Lib.contains
  by_cases h : (36 : UInt8) ∈ w
  · obtain ⟨A, C, rfl, hA⟩ := List.eq_append_cons_of_mem h
    rw [index1 36 C A hA]
    have h2 : (0 : Int) ≤ (A.length : Int) := by omega
    simp [h2]
  · rw [index1_no 36 w h]
    simp [h]
def wordL (l : List UInt8) : Int × Nat :=
  if l[rn isW l]? = some 33 ∧ plainL (l.take (rn isW l)) = true then (4, sheetedL l (rn isW l))
  else if l[rn isW l]? = some 40 ∧ freeL (l.take (rn isW l)) = true then (6, rn isW l)
  else if l[rn isW l]? = some 91 ∧ freeL (l.take (rn isW l)) = true then (7, if 0 < bz 0 (l.drop (rn isW l)) then rn isW l + bz 0 (l.drop (rn isW l)) else 0)
  else if 0 < areaL l (rn isW l) then (4, areaL l (rn isW l))
  else (5, if freeL (l.take (rn isW l)) = true then rn isW l else 0)
theorem bz_le : ∀ (l : List UInt8) (d : Int), bz d l ≤ l.length
  | [], _ => Nat.le_refl _
  | c :: r, d => by
    simp only [bz, List.length_cons]
    generalize (if c = 91 then d + 1 else if c = 93 then d - 1 else d) = e
    have := bz_le r e
    split
    · omega
    · split
      · omega
      · omega
theorem word_eq (k : Nat) (l : List UInt8) (hl : l.length ≤ 2000000) (hk : l.length + 1100 ≤ k) : fscan_word.f k (B l) = some ((wordL l).1, ((wordL l).2 : Int)) := by
  obtain ⟨k, rfl⟩ : ∃ q, k = q + 4 := ⟨k - 4, by omega⟩
  obtain ⟨n, hn⟩ : ∃ n, n = rn isW l := ⟨_, rfl⟩
  have hnl : n ≤ l.length := by rw [hn]; exact rn_le isW l
  have htl : (l.take n).length = n := by rw [List.length_take]; omega
  -- the byte that follows, 0 where there is none
  obtain ⟨x, hx⟩ : ∃ x : Int, x = (if n < l.length then bt (B l) (n : Int) else 0) := ⟨_, rfl⟩
  have hx1 : ∀ d : UInt8, d ≠ 0 → (x = (d.toNat : Int) ↔ l[n]? = some d) := by
    intro d hd
    by_cases h : n < l.length
    · rw [hx, if_pos h]; exact btq l n h d
    · rw [hx, if_neg h, List.getElem?_eq_none (by omega)]
      constructor
      · intro e
        exact absurd (UInt8.toNat_inj.1 (show d.toNat = (0 : UInt8).toNat by show d.toNat = 0; omega)) hd
      · intro e; cases e
  have h33 : x = 33 ↔ l[n]? = some 33 := hx1 33 (by decide)
  have h40 : x = 40 ↔ l[n]? = some 40 := hx1 40 (by decide)
  have h91 : x = 91 ↔ l[n]? = some 91 := hx1 91 (by decide)
  have j3 : ∀ b : Bool, fscan_word.j3 (k + 1) (B l) (n : Int) (freeL (l.take n)) b = (if b = true then some ((7 : Int), (((if 0 < bz 0 (l.drop n) then n + bz 0 (l.drop n) else 0 : Nat)) : Int)) else
      if 0 < areaL l n then some (4, ((areaL l n : Nat) : Int)) else some (5, (((if freeL (l.take n) = true then n else 0 : Nat)) : Int))) := by
    intro b
    simp only [fscan_word.j3]
    cases b with
    | true =>
      simp only [if_true]
      have hb := bz_le (l.drop n) 0
      rw [List.length_drop] at hb
      rw [if_pos (by omega), if_pos (by rw [B_size]; omega), Int.toNat_natCast, ex_drop, brackets_eq k _ (by rw [List.length_drop]; omega) (by rw [List.length_drop]; omega), Option.bind_some]
      by_cases h0 : 0 < bz 0 (l.drop n)
      · rw [if_pos (by omega), if_pos h0, wr_a _ _ (by omega)]
      · rw [if_neg (by omega), if_neg h0]; rfl
    | false =>
      simp only [Bool.false_eq_true, if_false]
      rw [area_eq k (by omega) l hl n hnl, Option.bind_some]
      by_cases h0 : 0 < areaL l n
      · rw [if_pos (by omega), if_pos h0]
      · rw [if_neg (by omega), if_neg h0]
        split <;> rfl
  have j2 : ∀ b : Bool, fscan_word.j2 (k + 2) (B l) (n : Int) x (freeL (l.take n)) b = (if b = true then some ((6 : Int), (n : Int)) else
      if l[n]? = some 91 ∧ freeL (l.take n) = true then fscan_word.j3 (k + 1) (B l) (n : Int) (freeL (l.take n)) true else fscan_word.j3 (k + 1) (B l) (n : Int) (freeL (l.take n)) false) := by
    intro b
    simp only [fscan_word.j2]
    cases b with
    | true => simp
    | false =>
      simp only [Bool.false_eq_true, if_false]
      by_cases h : l[n]? = some 91
      · rw [if_pos (h91.2 h)]
        cases hf : freeL (l.take n) <;> simp [h]
      · rw [if_neg (fun e => h (h91.1 e)), if_neg (fun e => h e.1)]
  have j1 : ∀ b : Bool, fscan_word.j1 (k + 3) (B l) (n : Int) x (freeL (l.take n)) b = (if b = true then some ((4 : Int), ((sheetedL l n : Nat) : Int)) else
      if l[n]? = some 40 ∧ freeL (l.take n) = true then some (6, (n : Int)) else fscan_word.j2 (k + 2) (B l) (n : Int) x (freeL (l.take n)) false) := by
    intro b
    simp only [fscan_word.j1]
    cases b with
    | true =>
      simp only [if_true]
      rw [sheeted_eq (k + 2) (by omega) l hl n hnl, Option.bind_some]
    | false =>
      simp only [Bool.false_eq_true, if_false]
      by_cases h : l[n]? = some 40
      · rw [if_pos (h40.2 h), j2]
        by_cases hf : freeL (l.take n) = true
        · rw [if_pos hf, if_pos ⟨h, hf⟩]
        · rw [if_neg hf, if_neg (show ¬ (l[n]? = some 40 ∧ freeL (l.take n) = true) from fun e => hf e.2), j2 false, if_neg (show ¬ (false = true) by decide)]
      · rw [if_neg (fun e => h (h40.1 e)), if_neg (fun e => h e.1)]
  have j0 : fscan_word.j0 (k + 4) (B l) (n : Int) (B (l.take n)) x = some ((wordL l).1, ((wordL l).2 : Int)) := by
    simp only [fscan_word.j0]
    rw [contains_eq _ (by omega), Option.bind_some, Bool.not_not]
    have hp := plain_eq (l.take n) (by omega) (k + 3) (by omega)
    unfold wordL
    rw [← hn]
    by_cases h : l[n]? = some 33
    · rw [if_pos (h33.2 h), hp, Option.bind_some, j1]
      by_cases hpl : plainL (l.take n) = true
      · rw [if_pos hpl, if_pos ⟨h, hpl⟩]
      · have h1 : ¬ (l[n]? = some 40 ∧ freeL (l.take n) = true) := by rw [h]; simp
        have h2 : ¬ (l[n]? = some 91 ∧ freeL (l.take n) = true) := by rw [h]; simp
        rw [if_neg hpl, if_neg h1, j2, if_neg (by decide), if_neg h2, j3, if_neg (by decide)]
        rw [if_neg (show ¬ (l[n]? = some 33 ∧ plainL (l.take n) = true) from fun e => hpl e.2), if_neg h1, if_neg h2]
        split <;> rfl
    · rw [if_neg (fun e => h (h33.1 e)), j1, if_neg (by decide), if_neg (show ¬ (l[n]? = some 33 ∧ plainL (l.take n) = true) from fun e => h e.1)]
      by_cases h4 : l[n]? = some 40 ∧ freeL (l.take n) = true
      · rw [if_pos h4, if_pos h4]
      · rw [if_neg h4, if_neg h4, j2, if_neg (by decide), j3, j3]
        by_cases h9 : l[n]? = some 91 ∧ freeL (l.take n) = true
        · rw [if_pos h9, if_pos h9, if_pos rfl]
        · rw [if_neg h9, if_neg h9, if_neg (by decide)]
          split <;> rfl
  unfold fscan_word.f
  show ((runP isW (B l)).bind _) = _
  rw [run_eq isW l (by omega), Option.bind_some, ← hn, if_pos (by omega), if_pos (by rw [B_size]; omega), Int.toNat_natCast, ex_take]
  by_cases h : n < l.length
  · rw [if_pos (by rw [B_size]; omega)]
    rw [if_pos h] at hx
    rw [← hx]
    exact j0
  · rw [if_neg (by rw [B_size]; omega)]
    rw [if_neg h] at hx
    rw [← hx]
    exact j0
end Go.Proofs.YtefhcgnamfnkbaaDoor.Pure
