/- What Undo writes (plain). -/
import Derived.Test.YtefhcgnamfnkbaaDoorAxJoin
import Derived.Test.YtefhcgnamfnkbaaDoorUndo
namespace Go.Proofs.YtefhcgnamfnkbaaDoor.Pr
open Go.RowKit Go.Proofs.YtefhcgnamfnkbaaDoorW.PrintWords Go.Proofs.YtefhcgnamfnkbaaDoorW.PrintLast Go.Proofs.YtefhcgnamfnkbaaDoorW.PrintMore
set_option linter.unusedVariables false

/-- A change the other way round. -/
def flip : List S127 → List S127
  | [] => []
  | s :: r => ⟨if s.f0 = 0 then 0 else if s.f0 = 1 then 2 else 1, s.f1⟩ :: flip r
theorem img_cons (k n : Int) (hk : k = 0 ∨ k = 1 ∨ k = 2) (hn : 1 ≤ n) (m : List S127) (y : Int) (hy : 0 ≤ y) : img (⟨k, n⟩ :: m) y = glue (step k n) (img m) y :=
  img_app (step k n) m y (vd_step hk hn) hy
set_option maxHeartbeats 2000000 in
theorem undo_ok : ∀ (r l : List S127) (a c T : Int), Vd r → Vd l → 0 ≤ a → 0 ≤ c → bef (wl l a c) + aft (wl l a c) + bef r + aft r ≤ T → T ≤ 1000000000000 →
    ∃ l' a' c', undoN r l a c = some (l', a', c') ∧ Vd l' ∧ 0 ≤ a' ∧ 0 ≤ c' ∧ bef (wl l' a' c') + aft (wl l' a' c') ≤ T ∧ ∀ x, 0 ≤ x → img (wl l' a' c') x = glue (wl l a c) (img (flip r)) x
  | [], l, a, c, T, hr, hl, ha, hc, hT, hT2 => by
    refine ⟨l, a, c, rfl, hl, ha, hc, by simp only [bef, aft] at hT; omega, fun x hx => ?_⟩
    have h1 := img_app (wl l a c) [] x (vd_wl hl) hx
    rw [List.append_nil] at h1
    exact h1
  | s :: r, l, a, c, T, hr, hl, ha, hc, hT, hT2 => by
    have hv : Vd (wl l a c) := vd_wl hl
    have e : bef (wl l a c) + aft (wl l a c) = bef l + aft l + (bef (adds 1 a) + aft (adds 1 a)) + (bef (adds 2 c) + aft (adds 2 c)) := by unfold wl; rw [bef_app, bef_app, aft_app, aft_app]; omega
    rw [adds_le (.inl rfl) ha, adds_le (.inr rfl) hc] at e
    have hlen := len_le hl
    have n1 := bef_nn hr.tail
    have n2 := aft_nn hr.tail
    obtain ⟨hk, hn⟩ := hr.head
    have n0 := bef_nn hr
    have n00 := aft_nn hr
    have hb : bef (s :: r) = (if s.f0 = 1 then 0 else s.f1) + bef r := rfl
    have hf : aft (s :: r) = (if s.f0 = 2 then 0 else s.f1) + aft r := rfl
    have hL : l.length + 3 ≤ 1099511627776 := by omega
    rcases hk with hk | hk | hk
    · rw [if_neg (by omega)] at hb hf
      have pg := put_glue l a c 0 s.f1 T hl ha hc (.inl rfl) hn (by omega) hT2
      have s1 : bef (step 0 s.f1) + aft (step 0 s.f1) = 2 * s.f1 := by simp [step, bef, aft]; omega
      obtain ⟨l', a', c', e1, r1, r2, r3, r4, r5⟩ := undo_ok r _ _ _ T hr.tail pg.1 pg.2.1 pg.2.2.1 (by rw [pg.2.2.2.1, pg.2.2.2.2.1]; omega) hT2
      refine ⟨l', a', c', by simp only [undoN, hL, hk, if_true]; exact e1, r1, r2, r3, r4, fun x hx => ?_⟩
      rw [r5 x hx, pg.2.2.2.2.2 _ x hx]
      refine glue_ext (fun y hy => ?_) x
      simp only [flip, hk, if_true]
      exact (img_cons 0 s.f1 (.inl rfl) hn _ y hy).symm
    · rw [if_pos hk] at hb
      rw [if_neg (by omega)] at hf
      have pg := put_glue l a c 2 s.f1 T hl ha hc (.inr (.inr rfl)) hn (by omega) hT2
      have s1 : bef (step 2 s.f1) + aft (step 2 s.f1) = s.f1 := by simp [step, bef, aft]
      obtain ⟨l', a', c', e1, r1, r2, r3, r4, r5⟩ := undo_ok r _ _ _ T hr.tail pg.1 pg.2.1 pg.2.2.1 (by rw [pg.2.2.2.1, pg.2.2.2.2.1]; omega) hT2
      refine ⟨l', a', c', ?_, r1, r2, r3, r4, fun x hx => ?_⟩
      · simp only [undoN]
        rw [if_pos hL, if_neg (by omega), if_pos hk]; exact e1
      rw [r5 x hx, pg.2.2.2.2.2 _ x hx]
      refine glue_ext (fun y hy => ?_) x
      simp only [flip]
      rw [if_neg (by omega), if_pos hk]
      exact (img_cons 2 s.f1 (.inr (.inr rfl)) hn _ y hy).symm
    · rw [if_neg (by omega)] at hb
      rw [if_pos hk] at hf
      have pg := put_glue l a c 1 s.f1 T hl ha hc (.inr (.inl rfl)) hn (by omega) hT2
      have s1 : bef (step 1 s.f1) + aft (step 1 s.f1) = s.f1 := by simp [step, bef, aft]
      obtain ⟨l', a', c', e1, r1, r2, r3, r4, r5⟩ := undo_ok r _ _ _ T hr.tail pg.1 pg.2.1 pg.2.2.1 (by rw [pg.2.2.2.1, pg.2.2.2.2.1]; omega) hT2
      refine ⟨l', a', c', ?_, r1, r2, r3, r4, fun x hx => ?_⟩
      · simp only [undoN]
        rw [if_pos hL, if_neg (by omega), if_neg (by omega), if_pos hk]; exact e1
      rw [r5 x hx, pg.2.2.2.2.2 _ x hx]
      refine glue_ext (fun y hy => ?_) x
      simp only [flip]
      rw [if_neg (by omega), if_neg (by omega)]
      exact (img_cons 1 s.f1 (.inr (.inl rfl)) hn _ y hy).symm
end Go.Proofs.YtefhcgnamfnkbaaDoor.Pr
