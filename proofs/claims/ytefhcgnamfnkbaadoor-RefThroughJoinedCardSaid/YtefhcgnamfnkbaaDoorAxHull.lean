/- What cellref.hull finds (plain). -/
import Derived.Test.YtefhcgnamfnkbaaDoorAxPure
import Derived.Test.YtefhcgnamfnkbaaDoorHull
namespace Go.Proofs.YtefhcgnamfnkbaaDoor.Pr
open Go.RowKit Go.Proofs.YtefhcgnamfnkbaaDoorW.PrintWords Go.Proofs.YtefhcgnamfnkbaaDoorW.PrintLast Go.Proofs.YtefhcgnamfnkbaaDoorW.PrintMore

/-- What is known of the rows from low to high that lie below old. -/
def Part (g : Int → Option Int) (low high old f l : Int) (b : Bool) : Prop :=
  (b = false ∧ ∀ x, low ≤ x → x ≤ high → x < old → g x = none) ∨
  (b = true ∧ ∃ p q, low ≤ p ∧ p ≤ q ∧ q ≤ high ∧ q < old ∧ g p = some f ∧ g q = some l ∧ (∀ x, low ≤ x → x < p → g x = none) ∧ (∀ x, q < x → x ≤ high → x < old → g x = none))
theorem part_cut {g : Int → Option Int} {low high old n f l : Int} {b : Bool} (h : Part g low high old f l b) (hn : 0 ≤ n) (hg : ∀ x, old ≤ x → x < old + n → g x = none) : Part g low high (old + n) f l b := by
  rcases h with ⟨hb, h⟩ | ⟨hb, p, q, h1, h2, h3, h4, h5, h6, h7, h8⟩
  · exact .inl ⟨hb, fun x a1 a2 a3 => by
      rcases Int.lt_or_le x old with h0 | h0
      · exact h x a1 a2 h0
      · exact hg x h0 a3⟩
  · exact .inr ⟨hb, p, q, h1, h2, h3, by omega, h5, h6, h7, fun x a1 a2 a3 => by
        rcases Int.lt_or_le x old with h0 | h0
        · exact h8 x a1 a2 h0
        · exact hg x h0 a3⟩
theorem part_keep {g : Int → Option Int} {low high old now n f l : Int} {b : Bool} (h : Part g low high old f l b) (hn : 1 ≤ n) (h0 : 0 ≤ old) (h1 : 0 ≤ now) (hl : 0 ≤ low) (hlh : low ≤ high) (hh : high ≤ 4611686018427387904) (ho : old + n ≤ 4611686018427387904) (hw : now + n ≤ 4611686018427387904)
    (hg : ∀ x, old ≤ x → x < old + n → g x = some (x - old + now)) :
    Part g low high (old + n) (keepN low high f l b old now n).1 (keepN low high f l b old now n).2.1 (keepN low high f l b old now n).2.2 := by
  unfold keepN
  have w1 : wrap64 (old + n) = old + n := by unfold wrap64; omega
  have w2 : wrap64 (old + n - 1) = old + n - 1 := by unfold wrap64; omega
  rw [w1, w2]
  by_cases hm : max low old ≤ min high (old + n - 1)
  · rw [if_pos hm]
    obtain ⟨P, hP⟩ : ∃ P, P = max low old := ⟨_, rfl⟩
    obtain ⟨Q, hQ⟩ : ∃ Q, Q = min high (old + n - 1) := ⟨_, rfl⟩
    rw [← hP, ← hQ] at hm ⊢
    have w3 : wrap64 (wrap64 (now + P) - old) = P - old + now := by
      have e : wrap64 (now + P) = now + P := by unfold wrap64; omega
      rw [e]; unfold wrap64; omega
    have w4 : wrap64 (wrap64 (now + Q) - old) = Q - old + now := by
      have e : wrap64 (now + Q) = now + Q := by unfold wrap64; omega
      rw [e]; unfold wrap64; omega
    rw [w3, w4]
    have gQ := hg Q (by omega) (by omega)
    have gP := hg P (by omega) (by omega)
    rcases h with ⟨hb, h⟩ | ⟨hb, p, q, h1', h2, h3, h4, h5, h6, h7, h8⟩
    · subst hb
      refine .inr ⟨rfl, P, Q, by omega, hm, by omega, by omega, gP, gQ, fun x a1 a2 => h x a1 (by omega) (by omega), fun x a1 a2 a3 => by omega⟩
    · subst hb
      refine .inr ⟨rfl, p, Q, h1', by omega, by omega, by omega, h5, gQ, h7, fun x a1 a2 a3 => by omega⟩
  · rw [if_neg hm]
    rcases h with ⟨hb, h⟩ | ⟨hb, p, q, h1', h2, h3, h4, h5, h6, h7, h8⟩
    · exact .inl ⟨hb, fun x a1 a2 a3 => h x a1 a2 (by omega)⟩
    · exact .inr ⟨hb, p, q, h1', h2, h3, by omega, h5, h6, h7, fun x a1 a2 a3 => h8 x a1 a2 (by omega)⟩
/-- What hull finds. -/
def Hit (g : Int → Option Int) (low high : Int) (r : Int × Int × Bool) : Prop :=
  (r.2.2 = false ∧ ∀ x, low ≤ x → x ≤ high → g x = none) ∨
  (r.2.2 = true ∧ ∃ p q, low ≤ p ∧ p ≤ q ∧ q ≤ high ∧ g p = some r.1 ∧ g q = some r.2.1 ∧ (∀ x, low ≤ x → x < p → g x = none) ∧ (∀ x, q < x → x ≤ high → g x = none))
theorem hull_hit (g : Int → Option Int) (low high : Int) (hl : 0 ≤ low) (hlh : low ≤ high) (hh : high < 1073741824) : ∀ (r : List S127) (f l : Int) (b : Bool) (old now : Int), Vd r → 0 ≤ old → 0 ≤ now → old + bef r ≤ 2147483647 → now + aft r ≤ 2147483647 →
    (∀ x, old ≤ x → g x = (img r (x - old)).map (· + now)) → Part g low high old f l b → Hit g low high (hullN low high r f l b old now)
  | [], f, l, b, old, now, hv, h0, h1, hb, ha, hg, hp => by
    have hb' : bef [] = 0 := rfl
    have ha' : aft [] = 0 := rfl
    have hk := part_keep (n := 1073741824) (now := now) hp (by omega) h0 h1 hl hlh (by omega) (by omega) (by omega) (fun x a1 a2 => by rw [hg x a1]; rfl)
    unfold hullN
    rcases hk with ⟨e, k⟩ | ⟨e, p, q, k1, k2, k3, k4, k5, k6, k7, k8⟩
    · exact .inl ⟨e, fun x a1 a2 => k x a1 a2 (by omega)⟩
    · exact .inr ⟨e, p, q, k1, k2, k3, k5, k6, k7, fun x a1 a2 => k8 x a1 a2 (by omega)⟩
  | s :: r, f, l, b, old, now, hv, h0, h1, hb, ha, hg, hp => by
    obtain ⟨hk, hn⟩ := hv.head
    have nb := bef_nn hv.tail
    have na := aft_nn hv.tail
    simp only [bef, aft] at hb ha
    simp only [hullN]
    rcases hk with hk | hk | hk
    · rw [if_neg (by omega)] at hb ha
      have w1 : wrap64 (old + s.f1) = old + s.f1 := by unfold wrap64; omega
      have w2 : wrap64 (now + s.f1) = now + s.f1 := by unfold wrap64; omega
      rw [if_pos hk, w1, w2]
      refine hull_hit g low high hl hlh hh r _ _ _ _ _ hv.tail (by omega) (by omega) (by omega) (by omega) (fun x hx => ?_) (part_keep (now := now) hp hn h0 h1 hl hlh (by omega) (by omega) (by omega) (fun x a1 a2 => ?_))
      · rw [hg x (by omega)]
        simp only [img, hk]
        rw [if_neg (by omega), if_pos trivial, if_neg (by omega), map_map', show x - old - s.f1 = x - (old + s.f1) from by omega, Int.add_comm s.f1 now]
      · rw [hg x a1]
        simp only [img, hk]
        rw [if_neg (by omega), if_pos trivial, if_pos (by omega)]
        rfl
    · rw [if_pos hk] at hb
      rw [if_neg (by omega)] at ha
      have w2 : wrap64 (now + s.f1) = now + s.f1 := by unfold wrap64; omega
      rw [if_neg (by omega), if_pos hk, w2]
      refine hull_hit g low high hl hlh hh r _ _ _ _ _ hv.tail (by omega) (by omega) (by omega) (by omega) (fun x hx => ?_) hp
      rw [hg x hx]
      simp only [img, hk]
      rw [if_pos trivial, map_map', Int.add_comm s.f1 now]
    · rw [if_neg (by omega)] at hb
      rw [if_pos hk] at ha
      have w1 : wrap64 (old + s.f1) = old + s.f1 := by unfold wrap64; omega
      rw [if_neg (by omega), if_neg (by omega), if_pos hk, w1]
      refine hull_hit g low high hl hlh hh r _ _ _ _ _ hv.tail (by omega) (by omega) (by omega) (by omega) (fun x hx => ?_) (part_cut hp (by omega) (fun x a1 a2 => ?_))
      · rw [hg x (by omega)]
        simp only [img, hk]
        rw [if_neg (by omega), if_neg (by omega), if_neg (by omega), show x - old - s.f1 = x - (old + s.f1) from by omega]
      · rw [hg x a1]
        simp only [img, hk]
        rw [if_neg (by omega), if_neg (by omega), if_pos (by omega)]
        rfl
theorem hull_is (la : List S127) (low high : Int) (hl : 0 ≤ low) (hlh : low ≤ high) (hh : high < 1073741824) (hv : Vd la) (hb : bef la ≤ 2147483647) (ha : aft la ≤ 2147483647) : Hit (fun x => if 0 ≤ x then img la x else none) low high (hullN low high la 0 0 false 0 0) := by
  refine hull_hit _ low high hl hlh hh la 0 0 false 0 0 hv (Int.le_refl 0) (Int.le_refl 0) (by omega) (by omega) (fun x hx => ?_) (.inl ⟨rfl, fun x h1 _ h2 => by omega⟩)
  rw [if_pos hx, Int.sub_zero]
  cases img la x <;> simp
end Go.Proofs.YtefhcgnamfnkbaaDoor.Pr
