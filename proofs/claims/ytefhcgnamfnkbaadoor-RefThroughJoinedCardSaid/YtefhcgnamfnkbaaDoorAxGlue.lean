/- One change after another: the words for Join (plain). -/
import Derived.Test.YtefhcgnamfnkbaaDoorAxPut
namespace Go.Proofs.YtefhcgnamfnkbaaDoor.Pr
open Go.RowKit Go.Proofs.YtefhcgnamfnkbaaDoorW.PrintWords Go.Proofs.YtefhcgnamfnkbaaDoorW.PrintLast Go.Proofs.YtefhcgnamfnkbaaDoorW.PrintMore

set_option linter.unusedVariables false
/-- First l, then what g says of the rows behind. -/
def glue (l : List S127) (g : Int → Option Int) (x : Int) : Option Int := if x < bef l then img l x else (g (x - bef l)).map (· + aft l)
theorem glue_same {l m : List S127} (h : Same l m) (g : Int → Option Int) (x : Int) (hx : 0 ≤ x) : glue l g x = glue m g x := by
  unfold glue; rw [h.b, h.a, h.i x hx]
theorem glue_ext {l : List S127} {g g' : Int → Option Int} (h : ∀ y, 0 ≤ y → g y = g' y) (x : Int) : glue l g x = glue l g' x := by
  unfold glue
  by_cases hb : x < bef l
  · simp [hb]
  · simp only [hb, if_false]; rw [h _ (by omega)]
theorem glue_app (l m : List S127) (g : Int → Option Int) (x : Int) (hl : Vd l) (hm : Vd m) (hx : 0 ≤ x) : glue (l ++ m) g x = glue l (glue m g) x := by
  have b1 := bef_nn hl
  have b2 := bef_nn hm
  unfold glue
  rw [bef_app, aft_app, img_app l m x hl hx]
  by_cases h1 : x < bef l
  · simp [h1, show x < bef l + bef m from by omega]
  · by_cases h2 : x - bef l < bef m
    · simp [h1, h2, show x < bef l + bef m from by omega]
    · simp only [h1, h2, show ¬ x < bef l + bef m from by omega, if_false, map_map']
      rw [show x - bef l - bef m = x - (bef l + bef m) from by omega, Int.add_comm (aft m)]
theorem img_nn : ∀ (l : List S127) (x v : Int), Vd l → 0 ≤ x → img l x = some v → 0 ≤ v
  | [], x, v, _, hx, h => by simp [img] at h; omega
  | s :: r, x, v, hv, hx, h => by
    obtain ⟨hk, hn⟩ := hv.head
    simp only [img] at h
    split at h
    · obtain ⟨z, hz, rfl⟩ := Option.map_eq_some_iff.1 h
      have := img_nn r x z hv.tail hx hz
      omega
    · split at h
      · split at h
        · cases h; exact hx
        · obtain ⟨z, hz, rfl⟩ := Option.map_eq_some_iff.1 h
          have := img_nn r _ z hv.tail (by omega) hz
          omega
      · split at h
        · cases h
        · exact img_nn r _ v hv.tail (by omega) h
/-- P, then Q. -/
def comp (P Q : List S127) (y : Int) : Option Int := (img P y).bind (img Q)
theorem comp_same {P P' Q Q' : List S127} (hP : Same P P') (hQ : Same Q Q') (vP : Vd P) (y : Int) (hy : 0 ≤ y) : comp P Q y = comp P' Q' y := by
  unfold comp
  rw [← hP.i y hy]
  cases h : img P y with
  | none => rfl
  | some v => exact hQ.i v (img_nn P y v vP hy h)
theorem comp_cut (n : Int) (s Q : List S127) (y : Int) : comp (⟨2, n⟩ :: s) Q y = glue (step 2 n) (comp s Q) y := by
  simp only [comp, glue, step, bef, aft, img]
  by_cases h : y < n
  · simp [h]
  · simp [h]
theorem comp_add (n : Int) (P t : List S127) (y : Int) (hy : 0 ≤ y) : comp P (⟨1, n⟩ :: t) y = glue (step 1 n) (comp P t) y := by
  simp only [comp, glue, step, bef, aft, img]
  simp [show ¬ y < 0 from by omega]
  cases img P y <;> simp
theorem comp_kk (n : Int) (s t : List S127) (y : Int) (_hn : 1 ≤ n) (hs : Vd s) (hy : 0 ≤ y) : comp (⟨0, n⟩ :: s) (⟨0, n⟩ :: t) y = glue (step 0 n) (comp s t) y := by
  simp only [comp, glue, step, bef, aft, img]
  by_cases h : y < n
  · simp [h]
  · simp [h]
    cases hz : img s (y - n) with
    | none => simp
    | some z =>
      have := img_nn s _ z hs (by omega) hz
      simp [show ¬ z + n < n from by omega]
theorem comp_kc (n : Int) (s t : List S127) (y : Int) (_hn : 1 ≤ n) (hs : Vd s) (hy : 0 ≤ y) : comp (⟨0, n⟩ :: s) (⟨2, n⟩ :: t) y = glue (step 2 n) (comp s t) y := by
  simp only [comp, glue, step, bef, aft, img]
  by_cases h : y < n
  · simp [h]
  · simp [h]
    cases hz : img s (y - n) with
    | none => simp
    | some z =>
      have := img_nn s _ z hs (by omega) hz
      simp [show ¬ z + n < n from by omega]
theorem comp_ak (n : Int) (s t : List S127) (y : Int) (_hn : 1 ≤ n) (hs : Vd s) (hy : 0 ≤ y) : comp (⟨1, n⟩ :: s) (⟨0, n⟩ :: t) y = glue (step 1 n) (comp s t) y := by
  simp only [comp, glue, step, bef, aft, img]
  simp [show ¬ y < 0 from by omega]
  cases hz : img s y with
  | none => simp
  | some z =>
    have := img_nn s _ z hs hy hz
    simp [show ¬ z + n < n from by omega]
theorem comp_ac (n : Int) (s t : List S127) (y : Int) (_hn : 1 ≤ n) (hs : Vd s) (hy : 0 ≤ y) : comp (⟨1, n⟩ :: s) (⟨2, n⟩ :: t) y = comp s t y := by
  simp only [comp, img]
  simp
  cases hz : img s y with
  | none => simp
  | some z =>
    have := img_nn s _ z hs hy hz
    simp [show ¬ z + n < n from by omega]
/-- What is left of a list, u of its first step being used. -/
def rest (P : List S127) (u : Int) : List S127 := match P with
  | [] => []
  | x :: s => ⟨x.f0, x.f1 - u⟩ :: s
/-- Taking n of the first step. -/
theorem take_rest (x : S127) (s : List S127) (u n : Int) (hu : 0 ≤ u) (hn : 1 ≤ n) (hnx : n ≤ x.f1 - u) (hk : x.f0 = 0 ∨ x.f0 = 1 ∨ x.f0 = 2) (hv : Vd s) (hX : x.f1 < 9223372036854775808) (h0 : ∀ y ∈ s, 1 ≤ y.f1) :
    Same (rest (x :: s) u) (⟨x.f0, n⟩ :: rest (takeN x s u n).1 (takeN x s u n).2) ∧ Vd (rest (takeN x s u n).1 (takeN x s u n).2) ∧ 0 ≤ (takeN x s u n).2 ∧ (∀ y r, (takeN x s u n).1 = y :: r → (takeN x s u n).2 < y.f1) := by
  have w : wrap64 (u + n) = u + n := by unfold wrap64; omega
  unfold takeN
  rw [w]
  by_cases h : u + n = x.f1
  · rw [if_pos h]
    have e : rest s 0 = s := by cases s with | nil => rfl | cons y r => simp [rest]
    refine ⟨?_, by rw [e]; exact hv, Int.le_refl 0, fun y r hy => ?_⟩
    · show Same (⟨x.f0, x.f1 - u⟩ :: s) (⟨x.f0, n⟩ :: rest s 0)
      rw [e, show x.f1 - u = n from by omega]
      exact Same.refl _
    · have := h0 y (by rw [show s = y :: r from hy]; exact List.mem_cons_self)
      show 0 < y.f1
      omega
  · rw [if_neg h]
    have h1 := (same_two x.f0 hk n (x.f1 - (u + n)) hn (by omega)).app (vd_step hk (by omega)) ((vd_step hk hn).app (vd_step hk (by omega))) s
    refine ⟨?_, ?_, by show 0 ≤ u + n; omega, fun y r hy => ?_⟩
    · have e : n + (x.f1 - (u + n)) = x.f1 - u := by omega
      rw [e] at h1
      exact h1
    · exact (vd_step hk (show 1 ≤ x.f1 - (u + n) by omega)).app hv
    · have hy' : x :: s = y :: r := hy
      cases hy'
      show u + n < x.f1
      omega
end Go.Proofs.YtefhcgnamfnkbaaDoor.Pr
