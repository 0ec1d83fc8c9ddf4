/- axis.lengths (plain). -/
import Derived.Test.YtefhcgnamfnkbaaDoorAxChk
import Derived.Test.YtefhcgnamfnkbaaDoorAxLen
import Derived.Test.YtefhcgnamfnkbaaDoorAxGlue
namespace Go.Proofs.YtefhcgnamfnkbaaDoor.Pr
open Go.RowKit Go.Proofs.YtefhcgnamfnkbaaDoorW.PrintWords Go.Proofs.YtefhcgnamfnkbaaDoorW.PrintLast Go.Proofs.YtefhcgnamfnkbaaDoorW.PrintMore
set_option linter.unusedVariables false

theorem wrap_in {z : Int} (h0 : 0 ≤ z) (h1 : z ≤ 2147483647) : wrap64 z = z := by unfold wrap64; omega
theorem lens_end (L : List S127) (i k : Nat) (b a : Int) (h : L.length ≤ i) : axis_lengths.l0 (k + 1) b a L (L.length : Int) (i : Int) = some (b, a) := by
  unfold axis_lengths.l0
  rw [if_neg (by omega)]
theorem lens_step (L : List S127) (i k : Nat) (b a : Int) (s : S127) (hL : L.length < 9223372036854775807) (hlt : i < L.length) (hs : rd_T127 L (i : Int) = s) (hb : ¬ s.f0 = 1 → wrap64 (b + s.f1) = b + s.f1) (ha : ¬ s.f0 = 2 → wrap64 (a + s.f1) = a + s.f1) :
    axis_lengths.l0 (k + 1) b a L (L.length : Int) (i : Int) = axis_lengths.l0 k (if s.f0 = 1 then b else b + s.f1) (if s.f0 = 2 then a else a + s.f1) L (L.length : Int) ((i + 1 : Nat) : Int) := by
  have hw : wrap64 ((i : Int) + 1) = ((i + 1 : Nat) : Int) := by unfold wrap64; omega
  have c1 : (i : Int) < (L.length : Int) := by omega
  have c2 : (0 : Int) ≤ (i : Int) := by omega
  rw [axis_lengths.l0, if_pos c1, if_pos c2, if_pos c1, hs, hw]
  by_cases h1 : s.f0 = 1
  · have h2 : ¬ s.f0 = 2 := by rw [h1]; decide
    rw [if_pos h1, if_neg h2, if_pos h1, if_neg h2, ha h2]
  · rw [if_neg h1, if_neg h1, hb h1]
    by_cases h2 : s.f0 = 2
    · rw [if_pos h2, if_pos h2]
    · rw [if_neg h2, if_neg h2, ha h2]
theorem lens_l0 (L : List S127) (hL : L.length < 9223372036854775807) (r : List S127) : ∀ (i : Nat) (b a : Int) (k : Nat), L.drop i = r → r.length + 1 ≤ k → Vd r → 0 ≤ b → 0 ≤ a → b + bef r ≤ 2147483647 → a + aft r ≤ 2147483647 →
    axis_lengths.l0 k b a L (L.length : Int) (i : Int) = some (b + bef r, a + aft r) := by
  induction r with
  | nil =>
    intro i b a k hd hk hv hb ha h1 h2
    cases k with
    | zero => omega
    | succ k =>
      rw [lens_end L i k b a (List.drop_eq_nil_iff.1 hd)]
      rw [show bef ([] : List S127) = 0 from rfl, show aft ([] : List S127) = 0 from rfl, Int.add_zero, Int.add_zero]
  | cons s r ih =>
    intro i b a k hd hk hv hb ha h1 h2
    cases k with
    | zero => omega
    | succ k =>
      obtain ⟨hs, hlt, hd1⟩ := rd_drop hd
      obtain ⟨hks, hn⟩ := hv.head
      have nb := bef_nn hv.tail
      have na := aft_nn hv.tail
      simp only [List.length_cons] at hk
      have hk1 : r.length + 1 ≤ k := by omega
      clear hk
      have eb : bef (s :: r) = (if s.f0 = 1 then 0 else s.f1) + bef r := rfl
      have ea : aft (s :: r) = (if s.f0 = 2 then 0 else s.f1) + aft r := rfl
      generalize bef (s :: r) = B at eb h1 ⊢
      generalize aft (s :: r) = A at ea h2 ⊢
      have wb : ¬ s.f0 = 1 → wrap64 (b + s.f1) = b + s.f1 := fun h => wrap_in (by omega) (by rw [if_neg h] at eb; omega)
      have wa : ¬ s.f0 = 2 → wrap64 (a + s.f1) = a + s.f1 := fun h => wrap_in (by omega) (by rw [if_neg h] at ea; omega)
      rw [lens_step L i k b a s hL hlt hs wb wa]
      rw [ih (i + 1) _ _ k hd1 hk1 hv.tail (by split <;> omega) (by split <;> omega) (by split at eb <;> split <;> omega) (by split at ea <;> split <;> omega)]
      have e1 : (if s.f0 = 1 then b else b + s.f1) + bef r = b + B := by split at eb <;> split <;> omega
      have e2 : (if s.f0 = 2 then a else a + s.f1) + aft r = a + A := by split at ea <;> split <;> omega
      rw [e1, e2]
theorem lens_eq (L : List S127) (hL : L.length < 9223372036854775807) (k : Nat) (hk : L.length + 1 ≤ k) (hv : Vd L) (hb : bef L ≤ 2147483647) (ha : aft L ≤ 2147483647) : axis_lengths.f k L = some (bef L, aft L) := by
  have h := lens_l0 L hL L 0 0 0 k rfl hk hv (Int.le_refl 0) (Int.le_refl 0) (by omega) (by omega)
  rw [Int.zero_add, Int.zero_add] at h
  exact h
end Go.Proofs.YtefhcgnamfnkbaaDoor.Pr
