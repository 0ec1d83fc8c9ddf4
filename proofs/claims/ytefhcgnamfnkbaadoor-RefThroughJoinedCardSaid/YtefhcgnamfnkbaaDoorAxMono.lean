/- The shape of images (plain). -/
import Derived.Test.YtefhcgnamfnkbaaDoorAxGlue
namespace Go.Proofs.YtefhcgnamfnkbaaDoor.Pr
open Go.RowKit Go.Proofs.YtefhcgnamfnkbaaDoorW.PrintWords Go.Proofs.YtefhcgnamfnkbaaDoorW.PrintLast Go.Proofs.YtefhcgnamfnkbaaDoorW.PrintMore
set_option linter.unusedVariables false

/-- Images grow. -/
theorem img_mono : ∀ (l : List S127) (x y v w : Int), Vd l → 0 ≤ x → x < y → img l x = some v → img l y = some w → v < w
  | [], x, y, v, w, _, hx, hxy, h1, h2 => by simp [img] at h1 h2; omega
  | s :: r, x, y, v, w, hv, hx, hxy, h1, h2 => by
    obtain ⟨hk, hn⟩ := hv.head
    rcases hk with hk | hk | hk
    · simp only [img, hk] at h1 h2
      simp at h1 h2
      by_cases c1 : x < s.f1
      · rw [if_pos c1] at h1
        cases h1
        by_cases c2 : y < s.f1
        · rw [if_pos c2] at h2; cases h2; exact hxy
        · rw [if_neg c2] at h2
          obtain ⟨z, hz, rfl⟩ := Option.map_eq_some_iff.1 h2
          have := img_nn r _ z hv.tail (by omega) hz
          omega
      · rw [if_neg c1] at h1
        rw [if_neg (by omega)] at h2
        obtain ⟨z, hz, rfl⟩ := Option.map_eq_some_iff.1 h1
        obtain ⟨z', hz', rfl⟩ := Option.map_eq_some_iff.1 h2
        have := img_mono r _ _ z z' hv.tail (by omega) (by omega) hz hz'
        omega
    · simp only [img, hk] at h1 h2
      simp at h1 h2
      obtain ⟨z, hz, rfl⟩ := h1
      obtain ⟨z', hz', rfl⟩ := h2
      have := img_mono r _ _ z z' hv.tail hx hxy hz hz'
      omega
    · simp only [img, hk] at h1 h2
      simp at h1 h2
      obtain ⟨c1, h1⟩ := h1
      obtain ⟨c2, h2⟩ := h2
      exact img_mono r _ _ v w hv.tail (by omega) (by omega) h1 h2
end Go.Proofs.YtefhcgnamfnkbaaDoor.Pr
