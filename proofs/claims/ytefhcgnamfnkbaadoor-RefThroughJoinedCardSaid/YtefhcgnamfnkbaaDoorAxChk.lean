/- What axis.Check lets pass (plain). -/
import Derived.Test.YtefhcgnamfnkbaaDoorAxPure
namespace Go.Proofs.YtefhcgnamfnkbaaDoor.Pr
open Go.RowKit Go.Proofs.YtefhcgnamfnkbaaDoorW.PrintWords Go.Proofs.YtefhcgnamfnkbaaDoorW.PrintLast Go.Proofs.YtefhcgnamfnkbaaDoorW.PrintMore

/-- Check, with the kind of the step before. -/
def chk : Option Int → Int → Int → List S127 → Int
  | _, b, a, [] => if b > 2147483647 then 3 else if a > 2147483647 then 3 else 0
  | p, b, a, s :: r =>
    if s.f0 < 0 ∨ s.f0 > 2 then 8 else if s.f1 < 1 ∨ s.f1 > 2147483647 then 2 else
    if p = some s.f0 ∨ (p = some 2 ∧ s.f0 = 1) then 5 else
    chk (some s.f0) (if s.f0 = 1 then b else mn (wrap64 (b + s.f1)) 2147483648) (if s.f0 = 2 then a else mn (wrap64 (a + s.f1)) 2147483648) r
def prevK (L : List S127) (i : Nat) : Option Int := if i = 0 then none else some (rd_T127 L ((i : Int) - 1)).f0
theorem rd_drop {L r : List S127} {i : Nat} {s : S127} (h : L.drop i = s :: r) : rd_T127 L (i : Int) = s ∧ i < L.length ∧ L.drop (i + 1) = r := by
  have hlt : i < L.length := by
    rcases Nat.lt_or_ge i L.length with h1 | h1
    · exact h1
    · rw [List.drop_eq_nil_of_le h1] at h; cases h
  rw [List.drop_eq_getElem_cons hlt] at h
  simp only [List.cons.injEq] at h
  refine ⟨?_, hlt, h.2⟩
  unfold rd_T127
  simp [hlt, h.1]
theorem chk_l0 (L : List S127) (hL : L.length < 9223372036854775807) : ∀ (r : List S127) (i : Nat) (b a : Int) (k : Nat), L.drop i = r → 4 * r.length + 1 ≤ k → axis_Check.l0 k L b a L (L.length : Int) (i : Int) = some (chk (prevK L i) b a r)
  | [], i, b, a, k, hd, hk => by
    obtain ⟨k, rfl⟩ : ∃ k', k = k' + 1 := ⟨k - 1, by omega⟩
    have hi := List.drop_eq_nil_iff.1 hd
    unfold axis_Check.l0 chk
    rw [if_neg (by omega)]
    split
    · rfl
    · split <;> rfl
  | s :: r, i, b, a, k, hd, hk => by
    simp only [List.length_cons] at hk
    obtain ⟨k, rfl⟩ : ∃ k', k = k' + 4 := ⟨k - 4, by omega⟩
    obtain ⟨hs, hlt, hd1⟩ := rd_drop hd
    have ih := fun b a => chk_l0 L hL r (i + 1) b a k hd1 (by omega)
    have hpk : prevK L (i + 1) = some s.f0 := by unfold prevK; rw [if_neg (by omega)]; simp [hs]
    rw [hpk] at ih
    have hw : wrap64 ((i : Int) + 1) = ((i + 1 : Nat) : Int) := by unfold wrap64; omega
    rw [show k + 4 = (k + 3) + 1 from rfl]
    unfold axis_Check.l0 chk
    rw [if_pos (by omega), if_pos (by omega), if_pos (by omega), hs]
    by_cases h1 : s.f0 < 0
    · rw [if_pos h1, if_pos (Or.inl h1)]
      rw [show k + 3 = (k + 2) + 1 from rfl]
      unfold axis_Check.j1
      rw [if_pos rfl]
    · rw [if_neg h1]
      rw [show k + 3 = (k + 2) + 1 from rfl]
      unfold axis_Check.j1
      by_cases h2 : s.f0 > 2
      · rw [if_pos (by simp [h2]), if_pos (Or.inr h2)]
      · rw [if_neg (show ¬ (decide (s.f0 > 2) = true) by simp; omega), if_neg (show ¬ (s.f0 < 0 ∨ s.f0 > 2) by omega)]
        have hj2 : ∀ x23, axis_Check.j2 (k + 2) L b a i L L.length i x23 s.f0 s.f1 = if x23 = true then some 2 else some (if prevK L i = some s.f0 ∨ (prevK L i = some 2 ∧ s.f0 = 1) then 5 else
            chk (some s.f0) (if s.f0 = 1 then b else mn (wrap64 (b + s.f1)) 2147483648) (if s.f0 = 2 then a else mn (wrap64 (a + s.f1)) 2147483648) r) := by
          intro x23
          have hj3 : axis_Check.j3 (k + 1) L b a L L.length i s.f0 s.f1 = some (chk (some s.f0) (if s.f0 = 1 then b else mn (wrap64 (b + s.f1)) 2147483648) (if s.f0 = 2 then a else mn (wrap64 (a + s.f1)) 2147483648) r) := by
            unfold axis_Check.j3
            rw [hw]
            by_cases e1 : s.f0 = 1
            · have e2 : ¬ s.f0 = 2 := by omega
              rw [if_pos e1, if_neg e2, if_pos e1, if_neg e2]
              exact ih _ _
            · rw [if_neg e1, if_neg e1]
              by_cases e2 : s.f0 = 2
              · rw [if_pos e2, if_pos e2]; exact ih _ _
              · rw [if_neg e2, if_neg e2]; exact ih _ _
          rw [show k + 2 = (k + 1) + 1 from rfl]
          unfold axis_Check.j2
          split
          · rfl
          · by_cases hi : i = 0
            · subst hi
              rw [if_neg (show ¬ ((0 : Nat) : Int) > 0 by omega), hj3, if_neg (show ¬ (prevK L 0 = some s.f0 ∨ (prevK L 0 = some 2 ∧ s.f0 = 1)) by simp [prevK])]
            · have hw1 : wrap64 ((i : Int) - 1) = (i : Int) - 1 := by unfold wrap64; omega
              have hpi : prevK L i = some (rd_T127 L ((i : Int) - 1)).f0 := by unfold prevK; rw [if_neg hi]
              rw [if_pos (show (i : Int) > 0 by omega), hw1, if_pos (show (0 : Int) ≤ (i : Int) - 1 by omega), if_pos (show (i : Int) - 1 < (L.length : Int) by omega), hj3]
              by_cases p1 : (rd_T127 L ((i : Int) - 1)).f0 = s.f0
              · rw [if_pos p1, if_pos (show (prevK L i = some s.f0 ∨ (prevK L i = some 2 ∧ s.f0 = 1)) from Or.inl (by rw [hpi, p1]))]
              · rw [if_neg p1]
                by_cases p2 : (rd_T127 L ((i : Int) - 1)).f0 = 2
                · rw [if_pos p2]
                  by_cases p3 : s.f0 = 1
                  · rw [if_pos p3, if_pos (show (prevK L i = some s.f0 ∨ (prevK L i = some 2 ∧ s.f0 = 1)) from Or.inr ⟨by rw [hpi, p2], p3⟩)]
                  · rw [if_neg p3, if_neg (show ¬ (prevK L i = some s.f0 ∨ (prevK L i = some 2 ∧ s.f0 = 1)) by rw [hpi]; simp [p1, p3])]
                · rw [if_neg p2, if_neg (show ¬ (prevK L i = some s.f0 ∨ (prevK L i = some 2 ∧ s.f0 = 1)) by rw [hpi]; simp [p1, p2])]
        by_cases h3 : s.f1 < 1
        · rw [if_pos h3, hj2, if_pos rfl, if_pos (show s.f1 < 1 ∨ s.f1 > 2147483647 from Or.inl h3)]
        · rw [if_neg h3, hj2]
          by_cases h4 : s.f1 > 2147483647
          · rw [if_pos (show decide (s.f1 > 2147483647) = true by simp [h4]), if_pos (show s.f1 < 1 ∨ s.f1 > 2147483647 from Or.inr h4)]
          · rw [if_neg (show ¬ (decide (s.f1 > 2147483647) = true) by simp; omega), if_neg (show ¬ (s.f1 < 1 ∨ s.f1 > 2147483647) by omega)]
theorem check_eq (L : List S127) (hL : L.length < 9223372036854775807) (k : Nat) (hk : 4 * L.length + 1 ≤ k) : axis_Check.f k L = some (chk none 0 0 L) := by
  have h := chk_l0 L hL L 0 0 0 k rfl hk
  simpa [axis_Check.f, prevK] using h
/-- Where no two steps stand together that should be one. -/
def Ord : Option Int → List S127 → Prop
  | _, [] => True
  | p, s :: r => ¬ (p = some s.f0 ∨ (p = some 2 ∧ s.f0 = 1)) ∧ Ord (some s.f0) r
theorem chk_ok : ∀ (l : List S127) (p : Option Int) (b a : Int), 0 ≤ b → 0 ≤ a → b ≤ 2147483648 → a ≤ 2147483648 → (chk p b a l = 0 ↔ Vd l ∧ (∀ s ∈ l, s.f1 ≤ 2147483647) ∧ Ord p l ∧ b + bef l ≤ 2147483647 ∧ a + aft l ≤ 2147483647)
  | [], p, b, a, hb, ha, hb2, ha2 => by
    simp only [chk, bef, aft, Ord]
    constructor
    · intro h
      split at h
      · cases h
      · split at h
        · cases h
        · exact ⟨fun s hs => (by cases hs), fun s hs => (by cases hs), trivial, by omega, by omega⟩
    · rintro ⟨_, _, _, h1, h2⟩
      rw [if_neg (by omega), if_neg (by omega)]
  | s :: r, p, b, a, hb, ha, hb2, ha2 => by
    simp only [chk, bef, aft, Ord]
    have hmn : ∀ x n : Int, 0 ≤ x → x ≤ 2147483648 → 1 ≤ n → n ≤ 2147483647 → mn (wrap64 (x + n)) 2147483648 = min (x + n) 2147483648 := by
      intro x n h1 h2 h3 h4
      have : wrap64 (x + n) = x + n := by unfold wrap64; omega
      rw [this]; unfold mn; split <;> omega
    by_cases h1 : s.f0 < 0 ∨ s.f0 > 2
    · rw [if_pos h1]
      refine ⟨fun h => (by omega), fun h => ?_⟩
      have := (h.1 s List.mem_cons_self).1
      omega
    · rw [if_neg h1]
      by_cases h2 : s.f1 < 1 ∨ s.f1 > 2147483647
      · rw [if_pos h2]
        refine ⟨fun h => (by omega), fun h => ?_⟩
        have h3 := (h.1 s List.mem_cons_self).2
        have h4 := h.2.1 s List.mem_cons_self
        omega
      · rw [if_neg h2]
        by_cases h3 : p = some s.f0 ∨ (p = some 2 ∧ s.f0 = 1)
        · rw [if_pos h3]
          exact ⟨fun h => (by omega), fun h => absurd h3 h.2.2.1.1⟩
        · rw [if_neg h3]
          have e1 := hmn b s.f1 hb hb2 (by omega) (by omega)
          have e2 := hmn a s.f1 ha ha2 (by omega) (by omega)
          rw [e1, e2]
          have ih := chk_ok r (some s.f0) (if s.f0 = 1 then b else min (b + s.f1) 2147483648) (if s.f0 = 2 then a else min (a + s.f1) 2147483648) (by split <;> omega) (by split <;> omega) (by split <;> omega) (by split <;> omega)
          rw [ih]
          constructor
          · rintro ⟨v, n, o, q1, q2⟩
            have b0 := bef_nn v
            have a0 := aft_nn v
            refine ⟨fun t ht => ?_, fun t ht => ?_, ⟨h3, o⟩, by split at q1 <;> omega, by split at q2 <;> omega⟩
            · rcases List.mem_cons.1 ht with rfl | ht
              · exact ⟨by omega, by omega⟩
              · exact v t ht
            · rcases List.mem_cons.1 ht with rfl | ht
              · omega
              · exact n t ht
          · rintro ⟨v, n, ⟨_, o⟩, q1, q2⟩
            have b0 := bef_nn v.tail
            have a0 := aft_nn v.tail
            exact ⟨v.tail, fun t ht => n t (List.mem_cons_of_mem _ ht), o, by split at q1 <;> split <;> omega, by split at q2 <;> split <;> omega⟩
end Go.Proofs.YtefhcgnamfnkbaaDoor.Pr
