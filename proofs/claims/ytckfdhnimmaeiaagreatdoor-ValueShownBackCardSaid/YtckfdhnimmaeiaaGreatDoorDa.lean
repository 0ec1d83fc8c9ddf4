/- value.before, lengths, Day, Date, walked by hand. -/
import Derived.Test.YtckfdhnimmaeiaaGreatDoorPdt
import Derived.Test.YtckfdhnimmaeiaaGreatDoorDs
namespace Go.Proofs.YtckfdhnimmaeiaaGreatDoor.Pr
open Go.RowKit Go.Proofs.YtckfdhnimmaeiaaGreatDoorW.PrintWords Go.Proofs.YtckfdhnimmaeiaaGreatDoorW.PrintLast Go.Proofs.YtckfdhnimmaeiaaGreatDoorW.PrintMore
open Go.Proofs.YtckfdhnimmaeiaaGreatDoor.Sd
set_option linter.unusedVariables false
set_option linter.unusedSimpArgs false
set_option maxHeartbeats 2000000 in
set_option maxRecDepth 100000 in
theorem before_calls (y : Int) (w : World) (h0 : 1900 ≤ y) (h1 : y ≤ 20000) :
    Calls Tryz.prog 16 #[.int .i64 y] w fun r w' => r = .returned (.int .i64 (bef y)) ∧ Below w.heap.size w w' := by
  have q0 : 0 ≤ y - 1 := by omega
  go_enter Tryz.func16, Tryz.ntmps16
  go_wp2
  go_ret
  exact ⟨rfl, climb⟩
/-- The lengths of the months as an array. -/
def lenA (b : Bool) : Array Value := #[.int .i64 31, .int .i64 (if b then 29 else 28), .int .i64 31, .int .i64 30, .int .i64 31, .int .i64 30, .int .i64 31, .int .i64 31, .int .i64 30, .int .i64 31, .int .i64 30, .int .i64 31]
theorem lenA_at (b : Bool) {i : Nat} (h : i < 12) : (lenA b)[i]? = some (.int .i64 (len b i)) := by
  have : i = 0 ∨ i = 1 ∨ i = 2 ∨ i = 3 ∨ i = 4 ∨ i = 5 ∨ i = 6 ∨ i = 7 ∨ i = 8 ∨ i = 9 ∨ i = 10 ∨ i = 11 := by omega
  rcases this with rfl | rfl | rfl | rfl | rfl | rfl | rfl | rfl | rfl | rfl | rfl | rfl <;> rfl
theorem leap_yes {y : Int} (h4 : y % 4 = 0) (h : ¬ y % 100 = 0 ∨ y % 400 = 0) : leap y = true := by
  unfold leap
  rw [decide_eq_true h4, Bool.true_and]
  rcases h with h | h
  · rw [decide_eq_true h]; rfl
  · rw [decide_eq_true h, Bool.or_true]
theorem leap_no {y : Int} (h : ¬ y % 4 = 0 ∨ (y % 100 = 0 ∧ ¬ y % 400 = 0)) : leap y = false := by
  unfold leap
  rcases h with h | ⟨h1, h2⟩
  · rw [decide_eq_false h]; rfl
  · rw [decide_eq_false h2, decide_eq_false (fun (e : ¬ y % 100 = 0) => e h1), Bool.or_false, Bool.and_false]
set_option maxHeartbeats 2000000 in
set_option maxRecDepth 100000 in
theorem lengths_yes (y : Int) (w : World) (h0 : 0 ≤ y) (h1 : y ≤ 20000) (h4 : y % 4 = 0) (h : ¬ y % 100 = 0 ∨ y % 400 = 0) :
    Calls Tryz.prog 17 #[.int .i64 y] w fun r w' => r = .returned (.agg (lenA true)) ∧ Below w.heap.size w w' := by
  by_cases h100 : y % 100 = 0
  · have h400 : y % 400 = 0 := by omega
    clear h
    go_enter Tryz.func17, Tryz.ntmps17
    go_wp2
    refine bodyPost_ret (results_cell_row rfl _ _ w.heap.size 48 (lenA true) (0, 0) _ rfl (blk_alloc (blk_new w _) _) Tryz.underlying48 rfl (by kernel_rfl)) rfl ?_
    exact ⟨rfl, climb⟩
  · clear h
    go_enter Tryz.func17, Tryz.ntmps17
    go_wp2
    refine bodyPost_ret (results_cell_row rfl _ _ w.heap.size 48 (lenA true) (0, 0) _ rfl (blk_alloc (blk_new w _) _) Tryz.underlying48 rfl (by kernel_rfl)) rfl ?_
    exact ⟨rfl, climb⟩
set_option maxHeartbeats 2000000 in
set_option maxRecDepth 100000 in
theorem lengths_no (y : Int) (w : World) (h0 : 0 ≤ y) (h1 : y ≤ 20000) (h : ¬ y % 4 = 0 ∨ (y % 100 = 0 ∧ ¬ y % 400 = 0)) :
    Calls Tryz.prog 17 #[.int .i64 y] w fun r w' => r = .returned (.agg (lenA false)) ∧ Below w.heap.size w w' := by
  by_cases h4 : y % 4 = 0
  · have h100 : y % 100 = 0 := by omega
    have h400 : ¬ y % 400 = 0 := by omega
    clear h
    go_enter Tryz.func17, Tryz.ntmps17
    go_wp2
    refine bodyPost_ret (results_cell_row rfl _ _ w.heap.size 48 (lenA false) (0, 0) _ rfl (blk_alloc (blk_new w _) _) Tryz.underlying48 rfl (by kernel_rfl)) rfl ?_
    exact ⟨rfl, climb⟩
  · clear h
    go_enter Tryz.func17, Tryz.ntmps17
    go_wp2
    refine bodyPost_ret (results_cell_row rfl _ _ w.heap.size 48 (lenA false) (0, 0) _ rfl (blk_alloc (blk_new w _) _) Tryz.underlying48 rfl (by kernel_rfl)) rfl ?_
    exact ⟨rfl, climb⟩
theorem lengths_calls (y : Int) (w : World) (h0 : 0 ≤ y) (h1 : y ≤ 20000) :
    Calls Tryz.prog 17 #[.int .i64 y] w fun r w' => r = .returned (.agg (lenA (leap y))) ∧ Below w.heap.size w w' := by
  by_cases h4 : y % 4 = 0
  · by_cases h : ¬ y % 100 = 0 ∨ y % 400 = 0
    · rw [leap_yes h4 h]; exact lengths_yes y w h0 h1 h4 h
    · rw [leap_no (.inr (by omega))]; exact lengths_no y w h0 h1 (.inr (by omega))
  · rw [leap_no (.inl h4)]; exact lengths_no y w h0 h1 (.inl h4)
/-- The lengths with their months written out. -/
theorem lengths_out (y : Int) (f : Int) (w : World) (h0 : 0 ≤ y) (h1 : y ≤ 20000) (hf : f = if leap y then 29 else 28) :
    Calls Tryz.prog 17 #[.int .i64 y] w fun r w' => r = .returned (.agg #[.int .i64 31, .int .i64 f, .int .i64 31, .int .i64 30, .int .i64 31, .int .i64 30, .int .i64 31, .int .i64 31, .int .i64 30, .int .i64 31, .int .i64 30, .int .i64 31]) ∧ Below w.heap.size w w' := by
  subst hf
  exact lengths_calls y w h0 h1
theorem slice48 (g : Nat) (h : Int) (W : World) (h0 : 0 ≤ h) (h1 : h ≤ 12) : (Instr.sliceAt 48 (.pointer (some ⟨g, 0, none⟩)) none (some (.int .i64 h)) none).run Tryz.prog W = .ok (.slice (some ⟨g, 0, none⟩) h.toNat 12) W := by
  have al : Tryz.prog.arrayLen 48 = 12 := by kernel_rfl
  rw [run_sliceAt_array_h W 48 ⟨g, 0, none⟩ (by kernel_rfl) .i64 h h0 (by rw [al]; omega), al]
  have e : (sizeOf (Tryz.prog.elem 48)).run Tryz.prog W = .ok 1 W := by
    have e1 : Tryz.prog.elem 48 = 3 := by kernel_rfl
    rw [e1]
    exact Tryz.sizeOf3 W
  rw [e]
  rfl
/-- The lengths lie at g. -/
def La (w : World) (g : Nat) (b : Bool) : Prop := w.heap[g]? = some (.cells (lenA b) 48 (0, 0))
theorem La.up {w w' : World} {g : Nat} {b : Bool} (h : La w g b) (k : Below w.heap.size w w') : La w' g b := blk_below h k
theorem La.at_ {w : World} {g : Nat} {b : Bool} (h : La w g b) {i : Nat} (hi : i < 12) : w.cell? ⟨g, i, none⟩ = some (.int .i64 (len b i)) := (blk_cell h i).trans (lenA_at b hi)
theorem cum_small (b : Bool) {i : Nat} (h : i ≤ 12) : 0 ≤ cum b i ∧ cum b i ≤ 366 := by
  have h1 := cum_le b (i := 0) (j := i) (by omega) h
  have h2 := cum_le b (i := i) (j := 12) h (by omega)
  have h3 := cum_year b
  have h4 : cum b 0 = 0 := rfl
  constructor
  · omega
  · cases b <;> simp at h3 <;> omega
theorem bef_small {y : Int} (h0 : 1900 ≤ y) (h1 : y ≤ 20000) : 0 ≤ bef y ∧ bef y ≤ 10000000 := by
  unfold bef
  omega
set_option maxHeartbeats 2000000 in
set_option maxRecDepth 100000 in
theorem day_yes (y : Int) (i : Nat) (d : Int) (w : World) (h0 : 1900 ≤ y) (h1 : y ≤ 9999) (hi : i < 12) (hd : 1 ≤ d) (hd2 : d ≤ 32) (hdD : d ≤ len (leap y) i) :
    Calls Tryz.prog 9 #[.int .i64 y, .int .i64 ((i : Int) + 1), .int .i64 d] w fun r w' => r = .returned (.tuple #[.int .i64 (bef y + cum (leap y) i + d), .bool true]) ∧ Below w.heap.size w w' := by
  have HBS := Aside0.mk (bef_small h0 (by omega))
  obtain ⟨f, hf⟩ : ∃ f : Int, f = if leap y then 29 else 28 := ⟨_, rfl⟩
  have HF := Aside0.mk hf
  clear hf
  obtain ⟨D, hD⟩ : ∃ D, D = len (leap y) i := ⟨_, rfl⟩
  have hD1 : 28 ≤ D ∧ D ≤ 31 := by rw [hD]; exact len_pos _ hi
  have HD := Aside0.mk hD
  rw [← hD] at hdD
  clear hD
  obtain ⟨R, hR⟩ : ∃ R : Int, R = bef y + cum (leap y) i + d := ⟨_, rfl⟩
  rw [← hR]
  have HR := Aside0.mk hR
  clear hR
  obtain ⟨M, hM⟩ : ∃ M : Int, M = (i : Int) + 1 := ⟨_, rfl⟩
  rw [← hM]
  have hM1 : 1 ≤ M ∧ M ≤ 12 := by omega
  have hMi : (M - 1).toNat = i := by omega
  have HM := Aside0.mk (show M - 1 = (i : Int) by omega)
  clear hM
  go_enter Tryz.func9, Tryz.ntmps9
  go_upto_region 4 with (first | (go_at_call 17; (with_reducible refine (lengths_out y f _ (by omega) (by omega) HF.out).mono ?_); rintro _ w1 ⟨rfl, hb1⟩; have B1 := Aside0.mk hb1; clear hb1))
  have hlaw : lenA (leap y) = #[.int .i64 31, .int .i64 f, .int .i64 31, .int .i64 30, .int .i64 31, .int .i64 30, .int .i64 31, .int .i64 31, .int .i64 30, .int .i64 31, .int .i64 30, .int .i64 31] := by rw [HF.out]; rfl
  have L4 := Aside0.mk (show La (w1.alloc (.cells #[.int .i64 31, .int .i64 f, .int .i64 31, .int .i64 30, .int .i64 31, .int .i64 30, .int .i64 31, .int .i64 31, .int .i64 30, .int .i64 31, .int .i64 30, .int .i64 31] 48)) w1.heap.size (leap y) by unfold La; rw [hlaw]; exact blk_new w1 _)
  have B4 := Aside0.mk (show Below w.heap.size w (w1.alloc (.cells #[.int .i64 31, .int .i64 f, .int .i64 31, .int .i64 30, .int .i64 31, .int .i64 30, .int .i64 31, .int .i64 31, .int .i64 30, .int .i64 31, .int .i64 30, .int .i64 31] 48)) from below_step B1.out climb)
  obtain ⟨W4, hW4⟩ : ∃ W4, W4 = w1.alloc (.cells #[.int .i64 31, .int .i64 f, .int .i64 31, .int .i64 30, .int .i64 31, .int .i64 30, .int .i64 31, .int .i64 31, .int .i64 30, .int .i64 31, .int .i64 30, .int .i64 31] 48) := ⟨_, rfl⟩
  obtain ⟨g, hg⟩ : ∃ g, g = w1.heap.size := ⟨_, rfl⟩
  rw [← hg] at L4 ⊢
  rw [← hW4] at L4 B4 ⊢
  clear hW4 hg hlaw B1
  have c4 := L4.out.at_ hi
  rw [← HD.out] at c4
  have hdD2 : ¬ D < d := by omega
  have CS := Aside0.mk (fun e (he : e ≤ i) => cum_small (leap y) (show e ≤ 12 by omega))
  obtain ⟨b, hb⟩ : ∃ b, b = leap y := ⟨_, rfl⟩
  rw [← hb] at L4 CS HR
  clear hb
  obtain ⟨Bf, hBf⟩ : ∃ Bf, Bf = bef y := ⟨_, rfl⟩
  have BC := Aside0.mk (fun w => before_calls y w h0 (by omega))
  rw [← hBf] at HBS HR BC
  clear hBf
  have q3 : 0 ≤ M - 1 := by omega
  have hsl : ∀ W, (Instr.sliceAt 48 (.pointer (some ⟨g, 0, none⟩)) none (some (.int .i64 (M - 1))) none).run Tryz.prog W = .ok (.slice (some ⟨g, 0, none⟩) i 12) W := fun W => hMi ▸ slice48 g (M - 1) W (by omega) (by omega)
  have hv1 : wrap64 (Bf + d) = Bf + d := by have := HBS.out; unfold wrap64; omega
  go_wp2_with (first | (go_at_call 16; (with_reducible refine (BC.out _).mono ?_); rintro _ w2 ⟨rfl, hb2⟩; have B2 := Aside0.mk (below_step (bl B4.out) hb2); have L2 := Aside0.mk (L4.out.up hb2); clear hb2))
  go_loopg [9, 46] i (fun kq v9 v46 w' => ∃ (e : Nat) (v : Int), v9 = .int .i64 v ∧ v46 = .int .i64 (e : Int) ∧ e + kq = i ∧ Aside0 (v = Bf + d + cum b e) ∧ Aside0 (La w' g b) ∧ Aside0 (Below w.heap.size w w'))
  case atStart => exact ⟨0, Bf + d, by go_num, rfl, by omega, ⟨by show _ = Bf + d + 0; omega⟩, ⟨L2.out.up climb⟩, ⟨bl B2.out⟩⟩
  case round =>
    obtain ⟨e, v, rfl, rfl, hk, E, L, B⟩ := hrel
    by_cases he : e < i
    · obtain ⟨g1, hg1⟩ : ∃ g1, gk = g1 + 1 := ⟨gk - 1, by omega⟩
      have HG1 := Aside0.mk hg1
      clear hg1
      have ce := L.out.at_ (show e < 12 by omega)
      have hs1 := CS.out e (by omega)
      have hs2 := HBS.out
      have hv : 0 ≤ v ∧ v ≤ 20000000 := by have := E.out; omega
      have hl := len_pos b (show e < 12 by omega)
      have E2 := Aside0.mk (show v + len b e = Bf + d + cum b (e + 1) by have := E.out; show _ = Bf + d + (cum b e + len b e); omega)
      generalize len b e = l at ce hl E2
      clear hs1 hs2
      go_wp2
      go_roundg g1
      case measure => have := HG1.out; omega
      case rel => have := HG1.out; exact ⟨e + 1, v + l, by go_num, by go_num, by omega, E2, ⟨L.out.up climb⟩, ⟨bl B.out⟩⟩
    · have E2 := Aside0.mk (show v = R by have h1 := E.out; have h2 := HR.out; rw [show e = i by omega] at h1; omega)
      go_wp2
      go_ret2
      exact ⟨by rw [E2.out]; rfl, bl B.out⟩
end Go.Proofs.YtckfdhnimmaeiaaGreatDoor.Pr
