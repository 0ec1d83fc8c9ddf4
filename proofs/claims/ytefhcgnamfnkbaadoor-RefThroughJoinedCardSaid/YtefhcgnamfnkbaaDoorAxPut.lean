/- The writer writes the same change. -/
import Derived.Test.YtefhcgnamfnkbaaDoorAxPure
namespace Go.Proofs.YtefhcgnamfnkbaaDoor.Pr
open Go.RowKit Go.Proofs.YtefhcgnamfnkbaaDoorW.PrintWords Go.Proofs.YtefhcgnamfnkbaaDoorW.PrintLast Go.Proofs.YtefhcgnamfnkbaaDoorW.PrintMore

/-- What the writer would hand back. -/
def wl (l : List S127) (a c : Int) : List S127 := l ++ adds 1 a ++ adds 2 c
theorem vd_wl {l : List S127} {a c : Int} (h : Vd l) : Vd (wl l a c) := (h.app (vd_adds (.inr (.inl rfl)))).app (vd_adds (.inr (.inr rfl)))
theorem same_add (k : Int) (hk : k = 0 ∨ k = 1 ∨ k = 2) (a n : Int) (ha : 0 ≤ a) (hn : 1 ≤ n) : Same (adds k (a + n)) (adds k a ++ step k n) := by
  rcases Int.lt_or_le 0 a with h | h
  · rw [adds_pos k (by omega), adds_pos k h]; exact same_two k hk a n (by omega) hn
  · obtain rfl : a = 0 := by omega
    rw [Int.zero_add, adds_pos k (show 0 < n by omega), adds_neg k (show ¬ (0 : Int) < 0 by omega)]; exact Same.refl _
theorem same_add_cut (c n : Int) : Same (adds 2 c ++ step 1 n) (step 1 n ++ adds 2 c) := by
  unfold adds
  split
  · exact (same_swap c n).symm
  · exact Same.refl _
theorem put_same (l : List S127) (a c kind n : Int) (hl : Vd l) (ha : 0 ≤ a) (hc : 0 ≤ c) (hk : kind = 0 ∨ kind = 1 ∨ kind = 2) (hn : 1 ≤ n) (hA : a + n < 9223372036854775808) (hC : c + n < 9223372036854775808)
    (hb : ∀ s ∈ wl l a c, s.f1 + n < 9223372036854775808) :
    Same (wl (putN l a c kind n).1 (putN l a c kind n).2.1 (putN l a c kind n).2.2) (wl l a c ++ step kind n) ∧ Vd (putN l a c kind n).1 ∧ 0 ≤ (putN l a c kind n).2.1 ∧ 0 ≤ (putN l a c kind n).2.2 := by
  unfold putN
  rw [if_neg (by omega)]
  rcases hk with rfl | rfl | rfl
  · rw [if_neg (by decide), if_neg (by decide)]
    have hw : wl (mend (l ++ adds 1 a ++ adds 2 c) n) 0 0 = mend (wl l a c) n := by unfold wl; rw [adds_neg 1 (show ¬ (0 : Int) < 0 by omega), adds_neg 2 (show ¬ (0 : Int) < 0 by omega)]; simp
    have hv : Vd (wl l a c) := vd_wl hl
    show Same (wl (mend (wl l a c) n) 0 0) _ ∧ Vd (mend (wl l a c) n) ∧ _
    have hw' : wl (mend (wl l a c) n) 0 0 = mend (wl l a c) n := hw
    rw [hw']
    have key : Same (mend (wl l a c) n) (wl l a c ++ step 0 n) ∧ Vd (mend (wl l a c) n) := by
      unfold mend
      split
      · rename_i s hs
        obtain ⟨r, hr⟩ : ∃ r, wl l a c = r ++ [s] := List.getLast?_eq_some_iff.1 hs
        have hbs := hb s (by rw [hr]; simp)
        have hvs := hv s (by rw [hr]; simp)
        have hvr : Vd r := fun t ht => hv t (by rw [hr]; exact List.mem_append_left _ ht)
        split
        · rename_i h0
          have hw64 : wrap64 (s.f1 + n) = s.f1 + n := by unfold wrap64; omega
          rw [hr, List.dropLast_concat, hw64]
          have e : s = ⟨0, s.f1⟩ := by cases s; simp only at h0; subst h0; rfl
          refine ⟨?_, hvr.app (vd_step (.inl rfl) (by omega))⟩
          have h2 := (same_two 0 (.inl rfl) s.f1 n hvs.2 hn).pre r hvr
          rw [List.append_assoc]
          rw [show ([s] : List S127) = step 0 s.f1 from by unfold step; rw [← e]]
          exact h2
        · exact ⟨Same.refl _, hv.app (vd_step (.inl rfl) hn)⟩
      · exact ⟨Same.refl _, hv.app (vd_step (.inl rfl) hn)⟩
    exact ⟨key.1, key.2, Int.le_refl 0, Int.le_refl 0⟩
  · rw [if_pos rfl]
    have hw64 : wrap64 (a + n) = a + n := by unfold wrap64; omega
    dsimp only
    rw [hw64]
    refine ⟨?_, hl, by omega, hc⟩
    have h1 := (same_add 1 (.inr (.inl rfl)) a n ha hn).pre l hl
    have h2 := h1.app (hl.app (vd_adds (.inr (.inl rfl)))) (hl.app ((vd_adds (.inr (.inl rfl))).app (vd_step (.inr (.inl rfl)) hn))) (adds 2 c)
    refine h2.trans ?_
    have h3 := (same_add_cut c n).symm.pre (l ++ adds 1 a) (hl.app (vd_adds (.inr (.inl rfl))))
    unfold wl
    simp only [List.append_assoc] at h3 ⊢
    exact h3
  · rw [if_neg (by decide), if_pos rfl]
    have hw64 : wrap64 (c + n) = c + n := by unfold wrap64; omega
    dsimp only
    rw [hw64]
    refine ⟨?_, hl, ha, by omega⟩
    have h1 := (same_add 2 (.inr (.inr rfl)) c n hc hn).pre (l ++ adds 1 a) (hl.app (vd_adds (.inr (.inl rfl))))
    unfold wl
    simp only [List.append_assoc] at h1 ⊢
    exact h1
end Go.Proofs.YtefhcgnamfnkbaaDoor.Pr
