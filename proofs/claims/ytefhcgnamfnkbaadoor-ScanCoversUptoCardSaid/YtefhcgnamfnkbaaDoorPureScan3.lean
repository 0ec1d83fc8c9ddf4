/- The tokens of a formula, on lists of bytes: each token is a token alone. -/
import Derived.Test.YtefhcgnamfnkbaaDoorPureScan2
namespace Go.Proofs.YtefhcgnamfnkbaaDoor.Pure
open Go.RowKit Go.Proofs.YtefhcgnamfnkbaaDoor.Pr Go.Proofs.YtefhcgnamfnkbaaDoorW.PrintWords Go.Proofs.YtefhcgnamfnkbaaDoorW.PrintLast
open Go.Proofs.YtefhcgnamfnkbaaDoor

/-! ### Beginnings -/
theorem rn_take (p : UInt8 → Bool) : ∀ (l : List UInt8) (m : Nat), rn p l ≤ m → rn p (l.take m) = rn p l
  | [], m, _ => by simp
  | c :: r, m, h => by
    cases m with
    | zero =>
      have : rn p (c :: r) = 0 := by omega
      rw [this]; rfl
    | succ m =>
      rw [List.take_succ_cons]
      unfold rn at h ⊢
      rw [List.takeWhile_cons] at h ⊢
      rw [List.takeWhile_cons]
      cases hc : p c with
      | true =>
        rw [hc] at h
        simp only [if_true, List.length_cons] at h ⊢
        have := rn_take p r m (by unfold rn; omega)
        unfold rn at this
        rw [this]
      | false => simp
theorem get_take (l : List UInt8) (m i : Nat) (h : i < m) : (l.take m)[i]? = l[i]? := List.getElem?_take_of_lt h
theorem get_end (l : List UInt8) (m : Nat) : (l.take m)[m]? = none := List.getElem?_eq_none (by rw [List.length_take]; omega)
theorem lt_of_get {l : List UInt8} {i : Nat} {c : UInt8} (h : l[i]? = some c) : i < l.length := by
  rcases Nat.lt_or_ge i l.length with h1 | h1
  · exact h1
  · rw [List.getElem?_eq_none h1] at h; cases h
theorem drop_tk (l : List UInt8) (m i : Nat) : (l.take m).drop i = (l.drop i).take (m - i) := by rw [List.drop_take]
theorem areaK_tk (l : List UInt8) (p m : Nat) (h : areaK l p ≤ m) : areaK (l.take m) p = areaK l p := by
  unfold areaK at h ⊢
  rw [drop_tk, rn_take isK _ _ (by omega)]
theorem area_tok (l : List UInt8) (p : Nat) (hp : p ≤ l.length) (h : 0 < areaL l p) :
    p ≤ areaL l p ∧ areaL l p ≤ l.length ∧ areaL (l.take (areaL l p)) p = areaL l p ∧ (p < areaL l p → l[p]? = some 58) := by
  obtain ⟨m, hm⟩ : ∃ m, m = areaL l p := ⟨_, rfl⟩
  rw [← hm] at h ⊢
  by_cases hc : l[p]? = some 58 ∧ PR (l.take (areaK l p)) = true
  · have e : m = areaK l p := by rw [hm]; unfold areaL; rw [if_pos hc]
    have hk := areaK_le l p (lt_of_get hc.1)
    have hpk : p < areaK l p := by unfold areaK; omega
    refine ⟨by omega, by omega, ?_, fun _ => hc.1⟩
    unfold areaL
    rw [areaK_tk l p m (by omega), get_take l m p (by omega), List.take_take, Nat.min_eq_left (by omega), if_pos hc, e]
  · have e : m = (if PR (l.take p) = true then p else 0) := by rw [hm]; unfold areaL; rw [if_neg hc]
    by_cases h1 : PR (l.take p) = true
    · rw [if_pos h1] at e
      subst e
      refine ⟨Nat.le_refl _, hp, ?_, fun h => absurd h (Nat.lt_irrefl _)⟩
      unfold areaL
      rw [if_neg (by rw [get_end]; simp), List.take_take, Nat.min_self, if_pos h1]
    · rw [if_neg h1] at e; omega
theorem sheeted_tok (l : List UInt8) (n : Nat) (h : 0 < sheetedL l n) :
    n < sheetedL l n ∧ sheetedL l n ≤ l.length ∧ l[n]? = some 33 ∧ sheetedL (l.take (sheetedL l n)) n = sheetedL l n := by
  by_cases hc : l[n]? = some 33
  · have e : sheetedL l n = areaL l (areaK l n) := by unfold sheetedL; rw [if_pos hc]
    have hk := areaK_le l n (lt_of_get hc)
    have hnk : n < areaK l n := by unfold areaK; omega
    rw [e] at h ⊢
    obtain ⟨a1, a2, a3, _⟩ := area_tok l (areaK l n) hk h
    refine ⟨by omega, a2, hc, ?_⟩
    unfold sheetedL
    rw [get_take l _ n (by omega), if_pos hc, areaK_tk l n _ a1, a3]
  · unfold sheetedL at h
    rw [if_neg hc] at h; omega
theorem rows_tok (l : List UInt8) (h : 0 < rowsL l) : rn isD l < rowsL l ∧ rowsL l ≤ l.length ∧ rowsL (l.take (rowsL l)) = rowsL l := by
  by_cases hc : l[rn isD l]? = some 58 ∧ PR (l.take (areaK l (rn isD l))) = true
  · have e : rowsL l = areaK l (rn isD l) := by unfold rowsL; rw [if_pos hc]
    have hk := areaK_le l (rn isD l) (lt_of_get hc.1)
    have hnk : rn isD l < areaK l (rn isD l) := by unfold areaK; omega
    rw [e]
    refine ⟨hnk, hk, ?_⟩
    unfold rowsL
    rw [rn_take isD l _ (by omega), get_take l _ _ hnk, areaK_tk l _ _ (Nat.le_refl _), List.take_take, Nat.min_self, if_pos hc]
  · unfold rowsL at h
    rw [if_neg hc] at h; omega
theorem dot_le (l : List UInt8) (n : Nat) (hn : n ≤ l.length) : n ≤ dotL l n ∧ dotL l n ≤ l.length ∧ (n < dotL l n → l[n]? = some 46) := by
  unfold dotL
  by_cases hc : l[n]? = some 46 ∧ 0 < rn isD (l.drop (n + 1))
  · rw [if_pos hc]
    have := rn_le isD (l.drop (n + 1))
    rw [List.length_drop] at this
    have := lt_of_get hc.1
    exact ⟨by omega, by omega, fun _ => hc.1⟩
  · rw [if_neg hc]; exact ⟨Nat.le_refl _, hn, fun h => absurd h (Nat.lt_irrefl _)⟩
theorem sgn_range (l : List UInt8) (n : Nat) : n ≤ sgnL l n ∧ sgnL l n ≤ n + 1 := by
  unfold sgnL; split <;> omega
theorem exp_le (l : List UInt8) (n : Nat) (hn : n ≤ l.length) : n ≤ expL l n ∧ expL l n ≤ l.length ∧ (n < expL l n → isE l[n]? = true) := by
  unfold expL
  by_cases hc : isE l[n]? = true ∧ 0 < rn isD (l.drop (sgnL l (n + 1)))
  · rw [if_pos hc]
    have h1 := rn_le isD (l.drop (sgnL l (n + 1)))
    rw [List.length_drop] at h1
    have h2 := sgn_range l (n + 1)
    exact ⟨by omega, by omega, fun _ => hc.1⟩
  · rw [if_neg hc]; exact ⟨Nat.le_refl _, hn, fun h => absurd h (Nat.lt_irrefl _)⟩
theorem exp_tk (l : List UInt8) (n : Nat) : expL (l.take (expL l n)) n = expL l n := by
  obtain ⟨m, hm⟩ : ∃ m, m = expL l n := ⟨_, rfl⟩
  rw [← hm]
  by_cases hc : isE l[n]? = true ∧ 0 < rn isD (l.drop (sgnL l (n + 1)))
  · have e : m = sgnL l (n + 1) + rn isD (l.drop (sgnL l (n + 1))) := by rw [hm]; unfold expL; rw [if_pos hc]
    have h2 := sgn_range l (n + 1)
    have hs : sgnL (l.take m) (n + 1) = sgnL l (n + 1) := by
      unfold sgnL
      rw [get_take l m (n + 1) (by omega)]
    have hr : rn isD ((l.take m).drop (sgnL l (n + 1))) = rn isD (l.drop (sgnL l (n + 1))) := by
      rw [drop_tk, rn_take isD _ _ (by omega)]
    unfold expL
    rw [hs, hr, get_take l m n (by omega), if_pos hc, e]
  · have e : m = n := by rw [hm]; unfold expL; rw [if_neg hc]
    subst e
    unfold expL
    rw [if_neg (by rw [get_end]; simp [isE])]
theorem number_tok (l : List UInt8) : rn isD l ≤ numberL l ∧ numberL l ≤ l.length ∧ numberL (l.take (numberL l)) = numberL l ∧ rowsL (l.take (numberL l)) = 0 := by
  obtain ⟨n, hn⟩ : ∃ n, n = rn isD l := ⟨_, rfl⟩
  have hnl : n ≤ l.length := by rw [hn]; exact rn_le isD l
  obtain ⟨d1, d2, d3⟩ := dot_le l n hnl
  obtain ⟨e1, e2, e3⟩ := exp_le l (dotL l n) d2
  have he : numberL l = expL l (dotL l n) := by unfold numberL; rw [← hn]
  obtain ⟨m, hm⟩ : ∃ m, m = expL l (dotL l n) := ⟨_, rfl⟩
  rw [he, ← hn, ← hm]
  rw [← hm] at e1 e2 e3
  have hr : rn isD (l.take m) = n := by rw [rn_take isD l m (by omega), hn]
  -- the byte behind the digits
  have hb : n < m → l[n]? = some 46 ∨ isE l[n]? = true := by
    intro h
    rcases Nat.lt_or_ge n (dotL l n) with h1 | h1
    · exact .inl (d3 h1)
    · have : dotL l n = n := by omega
      rw [this] at e3
      exact .inr (e3 h)
  have hd : dotL (l.take m) n = dotL l n := by
    by_cases hc : l[n]? = some 46 ∧ 0 < rn isD (l.drop (n + 1))
    · have e : dotL l n = n + 1 + rn isD (l.drop (n + 1)) := by unfold dotL; rw [if_pos hc]
      unfold dotL
      rw [get_take l m n (by omega), drop_tk, rn_take isD _ _ (by omega)]
    · have e : dotL l n = n := by unfold dotL; rw [if_neg hc]
      rw [e]
      unfold dotL
      rw [if_neg]
      intro hx
      rcases Nat.lt_or_ge n m with h1 | h1
      · rw [get_take l m n h1] at hx
        rw [e] at e3
        have := e3 h1
        rw [hx.1] at this
        revert this; decide
      · have : m = n := by omega
        rw [this, get_end] at hx
        cases hx.1
  refine ⟨by omega, e2, ?_, ?_⟩
  · unfold numberL
    rw [hr, hd, hm]
    exact exp_tk l (dotL l n)
  · unfold rowsL
    rw [hr, if_neg]
    intro hx
    rcases Nat.lt_or_ge n m with h1 | h1
    · rw [get_take l m n h1] at hx
      rcases hb h1 with h2 | h2
      · rw [hx.1] at h2; revert h2; decide
      · rw [hx.1] at h2; revert h2; decide
    · have : m = n := by omega
      rw [this, get_end] at hx
      cases hx.1
theorem bz_tk : ∀ (l : List UInt8) (d : Int) (m : Nat), 0 < bz d l → bz d l ≤ m → bz d (l.take m) = bz d l
  | [], _, _, h, _ => by simp [bz] at h
  | c :: r, d, m, h, hm => by
    obtain ⟨m, rfl⟩ : ∃ q, m = q + 1 := ⟨m - 1, by omega⟩
    rw [List.take_succ_cons]
    simp only [bz] at h hm ⊢
    generalize (if c = 91 then d + 1 else if c = 93 then d - 1 else d) = e at h hm ⊢
    by_cases h0 : e = 0
    · rw [if_pos h0, if_pos h0]
    · rw [if_neg h0] at h hm
      rw [if_neg h0, if_neg h0]
      by_cases hz : bz e r = 0
      · rw [if_pos hz] at h; omega
      · rw [if_neg hz] at hm
        rw [bz_tk r e m (by omega) (by omega)]
theorem qz_tk (mk : UInt8) : ∀ (n : Nat) (l : List UInt8), l.length ≤ n → 0 < qz mk l → qz mk l ≤ l.length ∧ ∀ m, qz mk l ≤ m → qz mk (l.take m) = qz mk l := by
  intro n
  induction n with
  | zero =>
    intro l hl h
    have : l = [] := List.eq_nil_of_length_eq_zero (by omega)
    subst this
    simp [qz] at h
  | succ n ih =>
    intro l hl h
    match l, hl, h with
    | [], _, h => simp [qz] at h
    | [c], _, h =>
      by_cases hc : c = mk
      · have e : qz mk [c] = 1 := by simp [qz, hc]
        rw [e]
        refine ⟨Nat.le_refl _, fun m hm => ?_⟩
        obtain ⟨m, rfl⟩ : ∃ q, m = q + 1 := ⟨m - 1, by omega⟩
        rw [List.take_succ_cons, List.take_nil, e]
      · simp [qz, hc] at h
    | c :: d :: r, hl, h =>
      simp only [List.length_cons] at hl ⊢
      by_cases hc : c = mk
      · by_cases hd : d = mk
        · simp only [qz, hc, hd, if_true] at h ⊢
          by_cases hz : qz mk r = 0
          · rw [if_pos hz] at h; omega
          · rw [if_neg hz] at h ⊢
            obtain ⟨i1, i2⟩ := ih r (by omega) (by omega)
            refine ⟨by omega, fun m hm => ?_⟩
            obtain ⟨m, rfl⟩ : ∃ q, m = q + 2 := ⟨m - 2, by omega⟩
            rw [List.take_succ_cons, List.take_succ_cons]
            simp only [qz, if_true]
            rw [i2 m (by omega), if_neg hz]
        · simp only [qz, hc, hd, if_true, if_false] at h ⊢
          refine ⟨by omega, fun m hm => ?_⟩
          obtain ⟨m, rfl⟩ : ∃ q, m = q + 1 := ⟨m - 1, by omega⟩
          rw [List.take_succ_cons]
          cases m with
          | zero => simp [qz]
          | succ m => rw [List.take_succ_cons]; simp [qz, hd]
      · simp only [qz, hc, if_false] at h ⊢
        by_cases hz : qz mk (d :: r) = 0
        · rw [if_pos hz] at h; omega
        · rw [if_neg hz] at h ⊢
          obtain ⟨i1, i2⟩ := ih (d :: r) (by simp only [List.length_cons]; omega) (by omega)
          simp only [List.length_cons] at i1
          refine ⟨by omega, fun m hm => ?_⟩
          obtain ⟨m, rfl⟩ : ∃ q, m = q + 2 := ⟨m - 2, by omega⟩
          have := i2 (m + 1) (by omega)
          rw [List.take_succ_cons] at this
          rw [List.take_succ_cons, List.take_succ_cons]
          simp only [qz, hc, if_false]
          rw [this, if_neg hz]
theorem quoted_tok (mk : UInt8) (l : List UInt8) (h : 0 < quotedL mk l) : quotedL mk l ≤ l.length ∧ 2 ≤ quotedL mk l ∧ ∀ m, quotedL mk l ≤ m → quotedL mk (l.take m) = quotedL mk l := by
  unfold quotedL at h ⊢
  by_cases hz : qz mk (l.drop 1) = 0
  · rw [if_pos hz] at h; omega
  · rw [if_neg hz]
    obtain ⟨q1, q2⟩ := qz_tk mk _ (l.drop 1) (Nat.le_refl _) (by omega)
    rw [List.length_drop] at q1
    refine ⟨by omega, by omega, fun m hm => ?_⟩
    rw [drop_tk, q2 (m - 1) (by omega), if_neg hz]
theorem word_tok (l : List UInt8) (h : 0 < (wordL l).2) : rn isW l ≤ (wordL l).2 ∧ (wordL l).2 ≤ l.length ∧ (wordL (l.take (wordL l).2)).2 = (wordL l).2 ∧ ((wordL l).1 ≠ 6 → (wordL (l.take (wordL l).2)).1 = (wordL l).1) := by
  obtain ⟨n, hn⟩ : ∃ n, n = rn isW l := ⟨_, rfl⟩
  have hnl : n ≤ l.length := by rw [hn]; exact rn_le isW l
  have hrn : ∀ m, n ≤ m → rn isW (l.take m) = n ∧ (l.take m).take n = l.take n := fun m hm => ⟨by rw [rn_take isW l m (by omega), hn], by rw [List.take_take, Nat.min_eq_left hm]⟩
  by_cases ha : l[n]? = some 33 ∧ plainL (l.take n) = true
  · have e : wordL l = (4, sheetedL l n) := by unfold wordL; rw [← hn, if_pos ha]
    rw [e] at h ⊢
    obtain ⟨s1, s2, s3, s4⟩ := sheeted_tok l n h
    obtain ⟨r1, r2⟩ := hrn (sheetedL l n) (by omega)
    have e2 : wordL (l.take (sheetedL l n)) = (4, sheetedL l n) := by
      unfold wordL
      rw [r1, r2, get_take l _ n s1, if_pos ha, s4]
    rw [← hn, e2]
    exact ⟨by omega, s2, rfl, fun _ => rfl⟩
  · by_cases hb : l[n]? = some 40 ∧ freeL (l.take n) = true
    · have e : wordL l = (6, n) := by unfold wordL; rw [← hn, if_neg ha, if_pos hb]
      rw [e] at h ⊢
      obtain ⟨r1, r2⟩ := hrn n (Nat.le_refl _)
      have e2 : (wordL (l.take n)).2 = n := by
        unfold wordL
        rw [r1, r2, get_end, if_neg (by simp), if_neg (by simp), if_neg (by simp)]
        by_cases h0 : 0 < areaL (l.take n) n
        · rw [if_pos h0]
          have hl2 : (l.take n).length = n := by rw [List.length_take]; omega
          obtain ⟨a1, a2, _, _⟩ := area_tok (l.take n) n (by omega) h0
          show areaL (l.take n) n = n
          omega
        · rw [if_neg h0, hb.2, if_pos rfl]
      rw [← hn]
      exact ⟨Nat.le_refl _, hnl, e2, fun h => absurd rfl h⟩
    · by_cases hc : l[n]? = some 91 ∧ freeL (l.take n) = true
      · have e : wordL l = (7, if 0 < bz 0 (l.drop n) then n + bz 0 (l.drop n) else 0) := by unfold wordL; rw [← hn, if_neg ha, if_neg hb, if_pos hc]
        rw [e] at h ⊢
        by_cases h0 : 0 < bz 0 (l.drop n)
        · simp only [if_pos h0] at h ⊢
          have hbl := bz_le (l.drop n) 0
          rw [List.length_drop] at hbl
          have hlt := lt_of_get hc.1
          obtain ⟨r1, r2⟩ := hrn (n + bz 0 (l.drop n)) (by omega)
          have hbz : bz 0 ((l.take (n + bz 0 (l.drop n))).drop n) = bz 0 (l.drop n) := by
            rw [drop_tk, show n + bz 0 (l.drop n) - n = bz 0 (l.drop n) by omega, bz_tk _ _ _ h0 (Nat.le_refl _)]
          have e2 : wordL (l.take (n + bz 0 (l.drop n))) = (7, n + bz 0 (l.drop n)) := by
            unfold wordL
            rw [r1, r2, get_take l _ n (by omega), if_neg ha, if_neg hb, if_pos hc, hbz, if_pos h0]
          rw [← hn, e2]
          exact ⟨by omega, by omega, rfl, fun _ => rfl⟩
        · simp only [if_neg h0] at h
          exact absurd h (Nat.lt_irrefl _)
      · by_cases hd : 0 < areaL l n
        · have e : wordL l = (4, areaL l n) := by unfold wordL; rw [← hn, if_neg ha, if_neg hb, if_neg hc, if_pos hd]
          rw [e] at h ⊢
          obtain ⟨a1, a2, a3, a4⟩ := area_tok l n hnl hd
          obtain ⟨r1, r2⟩ := hrn (areaL l n) a1
          have hne : ∀ c : UInt8, c ≠ 58 → ¬ (l.take (areaL l n))[n]? = some c := by
            intro c hc2
            rcases Nat.lt_or_ge n (areaL l n) with h1 | h1
            · rw [get_take l _ n h1, a4 h1]
              intro hx
              exact hc2 (Option.some.inj hx).symm
            · have : areaL l n = n := by omega
              rw [this, get_end]; simp
          have e2 : wordL (l.take (areaL l n)) = (4, areaL l n) := by
            unfold wordL
            rw [r1, r2, if_neg (fun hx => hne 33 (by decide) hx.1), if_neg (fun hx => hne 40 (by decide) hx.1), if_neg (fun hx => hne 91 (by decide) hx.1), a3, if_pos hd]
          rw [← hn, e2]
          exact ⟨a1, a2, rfl, fun _ => rfl⟩
        · have e : wordL l = (5, if freeL (l.take n) = true then n else 0) := by unfold wordL; rw [← hn, if_neg ha, if_neg hb, if_neg hc, if_neg hd]
          rw [e] at h ⊢
          by_cases hf : freeL (l.take n) = true
          · simp only [if_pos hf] at h ⊢
            obtain ⟨r1, r2⟩ := hrn n (Nat.le_refl _)
            have hpr : ¬ PR (l.take n) = true := by
              intro hx
              apply hd
              unfold areaL
              split
              · unfold areaK; omega
              · first | exact h | (rw [if_pos hx]; exact h)
            have ha0 : areaL (l.take n) n = 0 := by
              unfold areaL
              rw [get_end, if_neg (by simp), List.take_take, Nat.min_self, if_neg hpr]
            have e2 : wordL (l.take n) = (5, n) := by
              unfold wordL
              rw [r1, r2, get_end, if_neg (by simp), if_neg (by simp), if_neg (by simp), ha0, if_neg (by simp), if_pos hf]
            rw [← hn, e2]
            exact ⟨Nat.le_refl _, hnl, rfl, fun _ => rfl⟩
          · simp only [if_neg hf] at h
            exact absurd h (Nat.lt_irrefl _)
end Go.Proofs.YtefhcgnamfnkbaaDoor.Pure
