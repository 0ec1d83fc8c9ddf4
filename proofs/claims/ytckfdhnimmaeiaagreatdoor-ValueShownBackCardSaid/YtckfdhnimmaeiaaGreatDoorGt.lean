/- value.Enter: nothing, texts behind an apostrophe, true and false, faults, numbers (printed by wip/tools/mkgt.py). -/
import Derived.Test.YtckfdhnimmaeiaaGreatDoorGs
import Derived.Test.YtckfdhnimmaeiaaGreatDoorGqr
namespace Go.Proofs.YtckfdhnimmaeiaaGreatDoor.Pr
open Go.RowKit Go.Proofs.YtckfdhnimmaeiaaGreatDoorW.PrintWords Go.Proofs.YtckfdhnimmaeiaaGreatDoorW.PrintLast Go.Proofs.YtckfdhnimmaeiaaGreatDoorW.PrintMore
set_option linter.unusedVariables false
set_option linter.unusedSimpArgs false
theorem Fs.nine2 {w : World} (h : Fs w) : ∃ f0 f1 f2 f3 f4 f5 f6 f7 f8 : ByteArray, w.cell? ⟨0, 0, none⟩ = some (.string f0) ∧ w.cell? ⟨0, 1, none⟩ = some (.string f1) ∧ w.cell? ⟨0, 2, none⟩ = some (.string f2) ∧ w.cell? ⟨0, 3, none⟩ = some (.string f3) ∧ w.cell? ⟨0, 4, none⟩ = some (.string f4) ∧ w.cell? ⟨0, 5, none⟩ = some (.string f5) ∧ w.cell? ⟨0, 6, none⟩ = some (.string f6) ∧ w.cell? ⟨0, 7, none⟩ = some (.string f7) ∧ w.cell? ⟨0, 8, none⟩ = some (.string f8) ∧ ∀ e, e < 9 → ∃ f, (#[.string f0, .string f1, .string f2, .string f3, .string f4, .string f5, .string f6, .string f7, .string f8] : Array Value)[e]? = some (Value.string f) ∧ faultsL[e]? = some f := by
  refine ⟨_, _, _, _, _, _, _, _, _, h 0 _ rfl, h 1 _ rfl, h 2 _ rfl, h 3 _ rfl, h 4 _ rfl, h 5 _ rfl, h 6 _ rfl, h 7 _ rfl, h 8 _ rfl, fun e he => ?_⟩
  have : e = 0 ∨ e = 1 ∨ e = 2 ∨ e = 3 ∨ e = 4 ∨ e = 5 ∨ e = 6 ∨ e = 7 ∨ e = 8 := by omega
  rcases this with rfl | rfl | rfl | rfl | rfl | rfl | rfl | rfl | rfl <;> exact ⟨_, rfl, rfl⟩
set_option maxHeartbeats 8000000 in
set_option maxRecDepth 100000 in
theorem enter_empty (w : World) : Calls Tryz.prog 15 #[.string ⟨#[]⟩] w fun x w' => x = .returned (.agg #[.int .i64 0, .string ⟨#[]⟩, .string ⟨#[]⟩, .string ⟨#[]⟩, .bool false, .int .i64 0, .int .i64 0, .int .i64 0, .slice none 0 0]) ∧ Below w.heap.size w w' := by
  go_enter Tryz.func15, Tryz.ntmps15
  go_upto_region 1 with (fail)
  obtain ⟨g2, hg2⟩ : ∃ g2, g2 = w.heap.size := ⟨_, rfl⟩
  have Z := Aside0.mk (show (w.alloc (.cells (zv 0 ⟨#[]⟩ ⟨#[]⟩ ⟨#[]⟩ false 0 0 0 none 0 0) 33)).heap[g2]? = some (.cells (zv 0 ⟨#[]⟩ ⟨#[]⟩ ⟨#[]⟩ false 0 0 0 none 0 0) 33 (0, 0)) from hg2 ▸ blk_new w _)
  have B := Aside0.mk (show Below w.heap.size w (w.alloc (.cells (zv 0 ⟨#[]⟩ ⟨#[]⟩ ⟨#[]⟩ false 0 0 0 none 0 0) 33)) from climb)
  obtain ⟨W, hW⟩ : ∃ W, W = (w.alloc (.cells (zv 0 ⟨#[]⟩ ⟨#[]⟩ ⟨#[]⟩ false 0 0 0 none 0 0) 33)) := ⟨_, rfl⟩
  rw [← hW] at Z B ⊢
  rw [← hg2]
  have HGG := Aside0.mk (show w.heap.size ≤ g2 by omega)
  clear hW hg2
  obtain ⟨y0, y1, y2, y3, y4, y5, y6, y7, y8, f0, f1, f2, f3, f4, f5, f6, f7, f8⟩ := zer_cells Z.out
  go_wp2
  refine bodyPost_ret (results_cell_row rfl _ _ g2 33 (zv 0 ⟨#[]⟩ ⟨#[]⟩ ⟨#[]⟩ false 0 0 0 none 0 0) (0, 0) _ rfl (blk_put (cs' := (zv 0 ⟨#[]⟩ ⟨#[]⟩ ⟨#[]⟩ false 0 0 0 none 0 0)) (blk_put (cs' := (zv 0 ⟨#[]⟩ ⟨#[]⟩ ⟨#[]⟩ false 0 0 0 none 0 0)) (blk_put (cs' := (zv 0 ⟨#[]⟩ ⟨#[]⟩ ⟨#[]⟩ false 0 0 0 none 0 0)) (blk_put (cs' := (zv 0 ⟨#[]⟩ ⟨#[]⟩ ⟨#[]⟩ false 0 0 0 none 0 0)) (blk_put (cs' := (zv 0 ⟨#[]⟩ ⟨#[]⟩ ⟨#[]⟩ false 0 0 0 none 0 0)) (blk_put (cs' := (zv 0 ⟨#[]⟩ ⟨#[]⟩ ⟨#[]⟩ false 0 0 0 none 0 0)) (blk_put (cs' := (zv 0 ⟨#[]⟩ ⟨#[]⟩ ⟨#[]⟩ false 0 0 0 none 0 0)) (blk_put (cs' := (zv 0 ⟨#[]⟩ ⟨#[]⟩ ⟨#[]⟩ false 0 0 0 none 0 0)) (blk_put (cs' := (zv 0 ⟨#[]⟩ ⟨#[]⟩ ⟨#[]⟩ false 0 0 0 none 0 0)) Z.out 0 _ rfl) 1 _ rfl) 2 _ rfl) 3 _ rfl) 4 _ rfl) 5 _ rfl) 6 _ rfl) 7 _ rfl) 8 _ rfl) Tryz.underlying33 rfl (by kernel_rfl)) rfl ?_
  exact ⟨rfl, (below_set (below_set (below_set (below_set (below_set (below_set (below_set (below_set (below_set B.out HGG.out) HGG.out) HGG.out) HGG.out) HGG.out) HGG.out) HGG.out) HGG.out) HGG.out)⟩
set_option maxHeartbeats 8000000 in
set_option maxRecDepth 100000 in
theorem enter_text (S s : ByteArray) (hS : S.toList.isEmpty = false) (hT : ∀ w, Wd w → Calls Tryz.prog 20 #[.string S] w fun x w' => x = .returned (.int .i64 0) ∧ Below w.heap.size w w') (hp : strings_CutPrefix.f S ⟨#[39]⟩ = some (s, true)) (hs : s.size ≤ maxLen) (hts : textF s = 0) (w : World) (hW : Wd w) :
    Calls Tryz.prog 15 #[.string S] w fun x w' => x = .returned (.agg #[.int .i64 2, .string ⟨#[]⟩, .string ⟨#[]⟩, .string s, .bool false, .int .i64 0, .int .i64 0, .int .i64 0, .slice none 0 0]) ∧ Below w.heap.size w w' := by
  have TC := Aside0.mk hT
  have PC := Aside0.mk (fun w hGl => strings_CutPrefix.calls S ⟨#[39]⟩ s true w hGl hp)
  have VC := Aside0.mk (fun w hW => text_val s hs hts w hW)
  have HW := Aside0.mk hW
  clear hT hp hs hts hW
  go_enter Tryz.func15, Tryz.ntmps15
  go_upto_region 1 with (fail)
  obtain ⟨g2, hg2⟩ : ∃ g2, g2 = w.heap.size := ⟨_, rfl⟩
  have Z := Aside0.mk (show (w.alloc (.cells (zv 0 ⟨#[]⟩ ⟨#[]⟩ ⟨#[]⟩ false 0 0 0 none 0 0) 33)).heap[g2]? = some (.cells (zv 0 ⟨#[]⟩ ⟨#[]⟩ ⟨#[]⟩ false 0 0 0 none 0 0) 33 (0, 0)) from hg2 ▸ blk_new w _)
  have B := Aside0.mk (show Below w.heap.size w (w.alloc (.cells (zv 0 ⟨#[]⟩ ⟨#[]⟩ ⟨#[]⟩ false 0 0 0 none 0 0) 33)) from climb)
  obtain ⟨W, hW⟩ : ∃ W, W = (w.alloc (.cells (zv 0 ⟨#[]⟩ ⟨#[]⟩ ⟨#[]⟩ false 0 0 0 none 0 0) 33)) := ⟨_, rfl⟩
  rw [← hW] at Z B ⊢
  rw [← hg2]
  have HGG := Aside0.mk (show w.heap.size ≤ g2 by omega)
  clear hW hg2
  go_wp2_with (first
    | (go_at_call 20; (with_reducible refine (TC.out _ (HW.out.up (bl B.out))).mono ?_); rintro _ w1 ⟨rfl, hb1⟩; have B_ := Aside0.mk (below_step (bl B.out) hb1); have Z_ := Aside0.mk (blk_below (blk_below Z.out climb) hb1); clear B Z hb1; have B := B_; have Z := Z_; clear B_ Z_)
    | (go_at_call 40; (with_reducible refine (PC.out _ (HW.out.up (bl B.out)).gl).mono ?_); rintro _ w1 ⟨rfl, hd1⟩; have hb1 := hd1.below; have B_ := Aside0.mk (below_step (bl B.out) hb1); have Z_ := Aside0.mk (blk_below (blk_below Z.out climb) hb1); clear B Z hb1 hd1; have B := B_; have Z := Z_; clear B_ Z_)
    | (go_at_call 41; (with_reducible refine (VC.out _ (HW.out.up (bl B.out))).mono ?_); rintro _ w1 ⟨rfl, hb1⟩; have B_ := Aside0.mk (below_step (bl B.out) hb1); have Z_ := Aside0.mk (blk_below (blk_below Z.out climb) hb1); clear B Z hb1; have B := B_; have Z := Z_; clear B_ Z_; obtain ⟨y0, y1, y2, y3, y4, y5, y6, y7, y8, f0, f1, f2, f3, f4, f5, f6, f7, f8⟩ := zer_cells Z.out))
  refine bodyPost_ret (results_cell_row rfl _ _ g2 33 (zv 2 ⟨#[]⟩ ⟨#[]⟩ s false 0 0 0 none 0 0) (0, 0) _ rfl (blk_put (cs' := (zv 2 ⟨#[]⟩ ⟨#[]⟩ s false 0 0 0 none 0 0)) (blk_put (cs' := (zv 2 ⟨#[]⟩ ⟨#[]⟩ s false 0 0 0 none 0 0)) (blk_put (cs' := (zv 2 ⟨#[]⟩ ⟨#[]⟩ s false 0 0 0 none 0 0)) (blk_put (cs' := (zv 2 ⟨#[]⟩ ⟨#[]⟩ s false 0 0 0 none 0 0)) (blk_put (cs' := (zv 2 ⟨#[]⟩ ⟨#[]⟩ s false 0 0 0 none 0 0)) (blk_put (cs' := (zv 2 ⟨#[]⟩ ⟨#[]⟩ s false 0 0 0 none 0 0)) (blk_put (cs' := (zv 2 ⟨#[]⟩ ⟨#[]⟩ ⟨#[]⟩ false 0 0 0 none 0 0)) (blk_put (cs' := (zv 2 ⟨#[]⟩ ⟨#[]⟩ ⟨#[]⟩ false 0 0 0 none 0 0)) (blk_put (cs' := (zv 2 ⟨#[]⟩ ⟨#[]⟩ ⟨#[]⟩ false 0 0 0 none 0 0)) Z.out 0 _ rfl) 1 _ rfl) 2 _ rfl) 3 _ rfl) 4 _ rfl) 5 _ rfl) 6 _ rfl) 7 _ rfl) 8 _ rfl) Tryz.underlying33 rfl (by kernel_rfl)) rfl ?_
  exact ⟨rfl, (below_set (below_set (below_set (below_set (below_set (below_set (below_set (below_set (below_set B.out HGG.out) HGG.out) HGG.out) HGG.out) HGG.out) HGG.out) HGG.out) HGG.out) HGG.out)⟩
set_option maxHeartbeats 8000000 in
set_option maxRecDepth 100000 in
theorem enter_true (S l : ByteArray) (hS : S.toList.isEmpty = false) (hT : ∀ w, Wd w → Calls Tryz.prog 20 #[.string S] w fun x w' => x = .returned (.int .i64 0) ∧ Below w.heap.size w w') (hp : strings_CutPrefix.f S ⟨#[39]⟩ = some (S, false)) (hl : ∀ w, Calls Tryz.prog 42 #[.string S] w fun x w' => x = .returned (.string l) ∧ Below w.heap.size w w') (h1 : (l.toList == [116, 114, 117, 101]) = true) (w : World) (hW : Wd w) :
    Calls Tryz.prog 15 #[.string S] w fun x w' => x = .returned (.agg #[.int .i64 3, .string ⟨#[]⟩, .string ⟨#[]⟩, .string ⟨#[]⟩, .bool true, .int .i64 0, .int .i64 0, .int .i64 0, .slice none 0 0]) ∧ Below w.heap.size w w' := by
  have TC := Aside0.mk hT
  have PC := Aside0.mk (fun w hGl => strings_CutPrefix.calls S ⟨#[39]⟩ S false w hGl hp)
  have LC := Aside0.mk hl
  have VC := Aside0.mk (fun w hW => bool_val true w hW)
  have HW := Aside0.mk hW
  clear hT hp hl hW
  go_enter Tryz.func15, Tryz.ntmps15
  go_upto_region 1 with (fail)
  obtain ⟨g2, hg2⟩ : ∃ g2, g2 = w.heap.size := ⟨_, rfl⟩
  have Z := Aside0.mk (show (w.alloc (.cells (zv 0 ⟨#[]⟩ ⟨#[]⟩ ⟨#[]⟩ false 0 0 0 none 0 0) 33)).heap[g2]? = some (.cells (zv 0 ⟨#[]⟩ ⟨#[]⟩ ⟨#[]⟩ false 0 0 0 none 0 0) 33 (0, 0)) from hg2 ▸ blk_new w _)
  have B := Aside0.mk (show Below w.heap.size w (w.alloc (.cells (zv 0 ⟨#[]⟩ ⟨#[]⟩ ⟨#[]⟩ false 0 0 0 none 0 0) 33)) from climb)
  obtain ⟨W, hW⟩ : ∃ W, W = (w.alloc (.cells (zv 0 ⟨#[]⟩ ⟨#[]⟩ ⟨#[]⟩ false 0 0 0 none 0 0) 33)) := ⟨_, rfl⟩
  rw [← hW] at Z B ⊢
  rw [← hg2]
  have HGG := Aside0.mk (show w.heap.size ≤ g2 by omega)
  clear hW hg2
  go_wp2_with (first
    | (go_at_call 20; (with_reducible refine (TC.out _ (HW.out.up (bl B.out))).mono ?_); rintro _ w1 ⟨rfl, hb1⟩; have B_ := Aside0.mk (below_step (bl B.out) hb1); have Z_ := Aside0.mk (blk_below (blk_below Z.out climb) hb1); clear B Z hb1; have B := B_; have Z := Z_; clear B_ Z_)
    | (go_at_call 40; (with_reducible refine (PC.out _ (HW.out.up (bl B.out)).gl).mono ?_); rintro _ w1 ⟨rfl, hd1⟩; have hb1 := hd1.below; have B_ := Aside0.mk (below_step (bl B.out) hb1); have Z_ := Aside0.mk (blk_below (blk_below Z.out climb) hb1); clear B Z hb1 hd1; have B := B_; have Z := Z_; clear B_ Z_)
    | (go_at_call 42; (with_reducible refine (LC.out _).mono ?_); rintro _ w1 ⟨rfl, hb1⟩; have B_ := Aside0.mk (below_step (bl B.out) hb1); have Z_ := Aside0.mk (blk_below (blk_below Z.out climb) hb1); clear B Z hb1; have B := B_; have Z := Z_; clear B_ Z_)
    | (go_at_call 43; (with_reducible refine (VC.out _ (HW.out.up (bl B.out))).mono ?_); rintro _ w1 ⟨rfl, hb1⟩; have B_ := Aside0.mk (below_step (bl B.out) hb1); have Z_ := Aside0.mk (blk_below (blk_below Z.out climb) hb1); clear B Z hb1; have B := B_; have Z := Z_; clear B_ Z_; obtain ⟨y0, y1, y2, y3, y4, y5, y6, y7, y8, f0, f1, f2, f3, f4, f5, f6, f7, f8⟩ := zer_cells Z.out))
  refine bodyPost_ret (results_cell_row rfl _ _ g2 33 (zv 3 ⟨#[]⟩ ⟨#[]⟩ ⟨#[]⟩ true 0 0 0 none 0 0) (0, 0) _ rfl (blk_put (cs' := (zv 3 ⟨#[]⟩ ⟨#[]⟩ ⟨#[]⟩ true 0 0 0 none 0 0)) (blk_put (cs' := (zv 3 ⟨#[]⟩ ⟨#[]⟩ ⟨#[]⟩ true 0 0 0 none 0 0)) (blk_put (cs' := (zv 3 ⟨#[]⟩ ⟨#[]⟩ ⟨#[]⟩ true 0 0 0 none 0 0)) (blk_put (cs' := (zv 3 ⟨#[]⟩ ⟨#[]⟩ ⟨#[]⟩ true 0 0 0 none 0 0)) (blk_put (cs' := (zv 3 ⟨#[]⟩ ⟨#[]⟩ ⟨#[]⟩ true 0 0 0 none 0 0)) (blk_put (cs' := (zv 3 ⟨#[]⟩ ⟨#[]⟩ ⟨#[]⟩ false 0 0 0 none 0 0)) (blk_put (cs' := (zv 3 ⟨#[]⟩ ⟨#[]⟩ ⟨#[]⟩ false 0 0 0 none 0 0)) (blk_put (cs' := (zv 3 ⟨#[]⟩ ⟨#[]⟩ ⟨#[]⟩ false 0 0 0 none 0 0)) (blk_put (cs' := (zv 3 ⟨#[]⟩ ⟨#[]⟩ ⟨#[]⟩ false 0 0 0 none 0 0)) Z.out 0 _ rfl) 1 _ rfl) 2 _ rfl) 3 _ rfl) 4 _ rfl) 5 _ rfl) 6 _ rfl) 7 _ rfl) 8 _ rfl) Tryz.underlying33 rfl (by kernel_rfl)) rfl ?_
  exact ⟨rfl, (below_set (below_set (below_set (below_set (below_set (below_set (below_set (below_set (below_set B.out HGG.out) HGG.out) HGG.out) HGG.out) HGG.out) HGG.out) HGG.out) HGG.out) HGG.out)⟩
set_option maxHeartbeats 8000000 in
set_option maxRecDepth 100000 in
theorem enter_false (S l : ByteArray) (hS : S.toList.isEmpty = false) (hT : ∀ w, Wd w → Calls Tryz.prog 20 #[.string S] w fun x w' => x = .returned (.int .i64 0) ∧ Below w.heap.size w w') (hp : strings_CutPrefix.f S ⟨#[39]⟩ = some (S, false)) (hl : ∀ w, Calls Tryz.prog 42 #[.string S] w fun x w' => x = .returned (.string l) ∧ Below w.heap.size w w') (h1 : (l.toList == [116, 114, 117, 101]) = false) (h2 : (l.toList == [102, 97, 108, 115, 101]) = true) (w : World) (hW : Wd w) :
    Calls Tryz.prog 15 #[.string S] w fun x w' => x = .returned (.agg #[.int .i64 3, .string ⟨#[]⟩, .string ⟨#[]⟩, .string ⟨#[]⟩, .bool false, .int .i64 0, .int .i64 0, .int .i64 0, .slice none 0 0]) ∧ Below w.heap.size w w' := by
  have TC := Aside0.mk hT
  have PC := Aside0.mk (fun w hGl => strings_CutPrefix.calls S ⟨#[39]⟩ S false w hGl hp)
  have LC := Aside0.mk hl
  have VC := Aside0.mk (fun w hW => bool_val false w hW)
  have HW := Aside0.mk hW
  clear hT hp hl hW
  go_enter Tryz.func15, Tryz.ntmps15
  go_upto_region 1 with (fail)
  obtain ⟨g2, hg2⟩ : ∃ g2, g2 = w.heap.size := ⟨_, rfl⟩
  have Z := Aside0.mk (show (w.alloc (.cells (zv 0 ⟨#[]⟩ ⟨#[]⟩ ⟨#[]⟩ false 0 0 0 none 0 0) 33)).heap[g2]? = some (.cells (zv 0 ⟨#[]⟩ ⟨#[]⟩ ⟨#[]⟩ false 0 0 0 none 0 0) 33 (0, 0)) from hg2 ▸ blk_new w _)
  have B := Aside0.mk (show Below w.heap.size w (w.alloc (.cells (zv 0 ⟨#[]⟩ ⟨#[]⟩ ⟨#[]⟩ false 0 0 0 none 0 0) 33)) from climb)
  obtain ⟨W, hW⟩ : ∃ W, W = (w.alloc (.cells (zv 0 ⟨#[]⟩ ⟨#[]⟩ ⟨#[]⟩ false 0 0 0 none 0 0) 33)) := ⟨_, rfl⟩
  rw [← hW] at Z B ⊢
  rw [← hg2]
  have HGG := Aside0.mk (show w.heap.size ≤ g2 by omega)
  clear hW hg2
  go_wp2_with (first
    | (go_at_call 20; (with_reducible refine (TC.out _ (HW.out.up (bl B.out))).mono ?_); rintro _ w1 ⟨rfl, hb1⟩; have B_ := Aside0.mk (below_step (bl B.out) hb1); have Z_ := Aside0.mk (blk_below (blk_below Z.out climb) hb1); clear B Z hb1; have B := B_; have Z := Z_; clear B_ Z_)
    | (go_at_call 40; (with_reducible refine (PC.out _ (HW.out.up (bl B.out)).gl).mono ?_); rintro _ w1 ⟨rfl, hd1⟩; have hb1 := hd1.below; have B_ := Aside0.mk (below_step (bl B.out) hb1); have Z_ := Aside0.mk (blk_below (blk_below Z.out climb) hb1); clear B Z hb1 hd1; have B := B_; have Z := Z_; clear B_ Z_)
    | (go_at_call 42; (with_reducible refine (LC.out _).mono ?_); rintro _ w1 ⟨rfl, hb1⟩; have B_ := Aside0.mk (below_step (bl B.out) hb1); have Z_ := Aside0.mk (blk_below (blk_below Z.out climb) hb1); clear B Z hb1; have B := B_; have Z := Z_; clear B_ Z_)
    | (go_at_call 43; (with_reducible refine (VC.out _ (HW.out.up (bl B.out))).mono ?_); rintro _ w1 ⟨rfl, hb1⟩; have B_ := Aside0.mk (below_step (bl B.out) hb1); have Z_ := Aside0.mk (blk_below (blk_below Z.out climb) hb1); clear B Z hb1; have B := B_; have Z := Z_; clear B_ Z_; obtain ⟨y0, y1, y2, y3, y4, y5, y6, y7, y8, f0, f1, f2, f3, f4, f5, f6, f7, f8⟩ := zer_cells Z.out))
  refine bodyPost_ret (results_cell_row rfl _ _ g2 33 (zv 3 ⟨#[]⟩ ⟨#[]⟩ ⟨#[]⟩ false 0 0 0 none 0 0) (0, 0) _ rfl (blk_put (cs' := (zv 3 ⟨#[]⟩ ⟨#[]⟩ ⟨#[]⟩ false 0 0 0 none 0 0)) (blk_put (cs' := (zv 3 ⟨#[]⟩ ⟨#[]⟩ ⟨#[]⟩ false 0 0 0 none 0 0)) (blk_put (cs' := (zv 3 ⟨#[]⟩ ⟨#[]⟩ ⟨#[]⟩ false 0 0 0 none 0 0)) (blk_put (cs' := (zv 3 ⟨#[]⟩ ⟨#[]⟩ ⟨#[]⟩ false 0 0 0 none 0 0)) (blk_put (cs' := (zv 3 ⟨#[]⟩ ⟨#[]⟩ ⟨#[]⟩ false 0 0 0 none 0 0)) (blk_put (cs' := (zv 3 ⟨#[]⟩ ⟨#[]⟩ ⟨#[]⟩ false 0 0 0 none 0 0)) (blk_put (cs' := (zv 3 ⟨#[]⟩ ⟨#[]⟩ ⟨#[]⟩ false 0 0 0 none 0 0)) (blk_put (cs' := (zv 3 ⟨#[]⟩ ⟨#[]⟩ ⟨#[]⟩ false 0 0 0 none 0 0)) (blk_put (cs' := (zv 3 ⟨#[]⟩ ⟨#[]⟩ ⟨#[]⟩ false 0 0 0 none 0 0)) Z.out 0 _ rfl) 1 _ rfl) 2 _ rfl) 3 _ rfl) 4 _ rfl) 5 _ rfl) 6 _ rfl) 7 _ rfl) 8 _ rfl) Tryz.underlying33 rfl (by kernel_rfl)) rfl ?_
  exact ⟨rfl, (below_set (below_set (below_set (below_set (below_set (below_set (below_set (below_set (below_set B.out HGG.out) HGG.out) HGG.out) HGG.out) HGG.out) HGG.out) HGG.out) HGG.out) HGG.out)⟩
set_option maxHeartbeats 8000000 in
set_option maxRecDepth 100000 in
theorem enter_fault (S l : ByteArray) (n : Nat) (hS : S.toList.isEmpty = false) (hT : ∀ w, Wd w → Calls Tryz.prog 20 #[.string S] w fun x w' => x = .returned (.int .i64 0) ∧ Below w.heap.size w w') (hp : strings_CutPrefix.f S ⟨#[39]⟩ = some (S, false)) (hl : ∀ w, Calls Tryz.prog 42 #[.string S] w fun x w' => x = .returned (.string l) ∧ Below w.heap.size w w') (h1 : (l.toList == [116, 114, 117, 101]) = false) (h2 : (l.toList == [102, 97, 108, 115, 101]) = false) (hn1 : 1 ≤ n) (hf : faultsL[n]? = some S) (hne : ∀ e f, 1 ≤ e → e < n → faultsL[e]? = some f → (S.toList == f.toList) = false) (w : World) (hW : Wd w) :
    Calls Tryz.prog 15 #[.string S] w fun x w' => x = .returned (.agg #[.int .i64 4, .string ⟨#[]⟩, .string ⟨#[]⟩, .string ⟨#[]⟩, .bool false, .int .i64 (n : Int), .int .i64 0, .int .i64 0, .slice none 0 0]) ∧ Below w.heap.size w w' := by
  have TC := Aside0.mk hT
  have PC := Aside0.mk (fun w hGl => strings_CutPrefix.calls S ⟨#[39]⟩ S false w hGl hp)
  have LC := Aside0.mk hl
  have HW := Aside0.mk hW
  have HN := Aside0.mk (fun w (h : Fs w) => h.nine2)
  have VC := Aside0.mk (fun w hW => fault_val n S hn1 hf w hW)
  have HNE := Aside0.mk hne
  have HF := Aside0.mk hf
  have hn9 : n < 9 := (List.getElem?_eq_some_iff.1 hf).1
  have hself : (S.toList == S.toList) = true := beq_self_eq_true _
  clear hT hp hl hW hf hne
  go_enter Tryz.func15, Tryz.ntmps15
  go_upto_region 1 with (fail)
  obtain ⟨g2, hg2⟩ : ∃ g2, g2 = w.heap.size := ⟨_, rfl⟩
  have Z := Aside0.mk (show (w.alloc (.cells (zv 0 ⟨#[]⟩ ⟨#[]⟩ ⟨#[]⟩ false 0 0 0 none 0 0) 33)).heap[g2]? = some (.cells (zv 0 ⟨#[]⟩ ⟨#[]⟩ ⟨#[]⟩ false 0 0 0 none 0 0) 33 (0, 0)) from hg2 ▸ blk_new w _)
  have B := Aside0.mk (show Below w.heap.size w (w.alloc (.cells (zv 0 ⟨#[]⟩ ⟨#[]⟩ ⟨#[]⟩ false 0 0 0 none 0 0) 33)) from climb)
  obtain ⟨W, hW⟩ : ∃ W, W = (w.alloc (.cells (zv 0 ⟨#[]⟩ ⟨#[]⟩ ⟨#[]⟩ false 0 0 0 none 0 0) 33)) := ⟨_, rfl⟩
  rw [← hW] at Z B ⊢
  rw [← hg2]
  have HGG := Aside0.mk (show w.heap.size ≤ g2 by omega)
  clear hW hg2
  go_upto_region 11 with (first
    | (go_at_call 20; (with_reducible refine (TC.out _ (HW.out.up (bl B.out))).mono ?_); rintro _ w1 ⟨rfl, hb1⟩; have B_ := Aside0.mk (below_step (bl B.out) hb1); have Z_ := Aside0.mk (blk_below (blk_below Z.out climb) hb1); clear B Z hb1; have B := B_; have Z := Z_; clear B_ Z_)
    | (go_at_call 40; (with_reducible refine (PC.out _ (HW.out.up (bl B.out)).gl).mono ?_); rintro _ w1 ⟨rfl, hd1⟩; have hb1 := hd1.below; have B_ := Aside0.mk (below_step (bl B.out) hb1); have Z_ := Aside0.mk (blk_below (blk_below Z.out climb) hb1); clear B Z hb1 hd1; have B := B_; have Z := Z_; clear B_ Z_)
    | (go_at_call 42; (with_reducible refine (LC.out _).mono ?_); rintro _ w1 ⟨rfl, hb1⟩; have B_ := Aside0.mk (below_step (bl B.out) hb1); have Z_ := Aside0.mk (blk_below (blk_below Z.out climb) hb1); clear B Z hb1; have B := B_; have Z := Z_; clear B_ Z_))
  obtain ⟨f0, f1, f2, f3, f4, f5, f6, f7, f8, n0, n1, n2, n3, n4, n5, n6, n7, n8, hall⟩ := HN.out _ (HW.out.fs.below B.out)
  have HALL := Aside0.mk hall
  clear hall
  go_wp2_with (fail)
  go_loopg [39] n (fun kq v39 w' => ∃ (e : Nat), v39 = .int .i64 (e : Int) ∧ e + kq = n ∧ e ≤ n ∧ Aside0 (w'.heap[g2]? = some (.cells (zv 0 ⟨#[]⟩ ⟨#[]⟩ ⟨#[]⟩ false 0 0 0 none 0 0) 33 (0, 0))) ∧ Aside0 (Below w.heap.size w w'))
  case atStart => exact ⟨0, rfl, by omega, by omega, ⟨blk_below Z.out climb⟩, ⟨bl B.out⟩⟩
  case round =>
    clear Z B n0 n1 n2 n3 n4 n5 n6 n7 n8
    obtain ⟨e, rfl, hk, hen, Z, B⟩ := hrel
    by_cases he : e < n
    · obtain ⟨g1, hg1⟩ : ∃ g1, gk = g1 + 1 := ⟨gk - 1, by omega⟩
      have HG1 := Aside0.mk hg1
      clear hg1
      obtain ⟨f, hf, hfl⟩ := HALL.out e (by omega)
      have hix : ∀ W, (Instr.index 78 (.agg #[.string f0, .string f1, .string f2, .string f3, .string f4, .string f5, .string f6, .string f7, .string f8]) (.int .i64 (e : Int))).run Tryz.prog W = .ok (.string f) W := fun W => ix78 _ e (by omega) _ hf W
      clear hf
      by_cases hpos : 0 < (e : Int)
      · have hq := HNE.out e f (by omega) (by omega) hfl
        clear hfl
        go_wp2
        go_roundg g1
        case measure => have := HG1.out; omega
        case rel => have := HG1.out; exact ⟨e + 1, by go_num, by omega, by omega, ⟨blk_below Z.out climb⟩, ⟨bl B.out⟩⟩
      · clear hfl
        go_wp2
        go_roundg g1
        case measure => have := HG1.out; omega
        case rel => have := HG1.out; exact ⟨e + 1, by go_num, by omega, by omega, ⟨blk_below Z.out climb⟩, ⟨bl B.out⟩⟩
    · obtain rfl : e = n := by omega
      obtain ⟨f, hf, hfl⟩ := HALL.out e (by omega)
      obtain rfl : f = S := Option.some.inj (hfl.symm.trans HF.out)
      have hix : ∀ W, (Instr.index 78 (.agg #[.string f0, .string f1, .string f2, .string f3, .string f4, .string f5, .string f6, .string f7, .string f8]) (.int .i64 (e : Int))).run Tryz.prog W = .ok (.string f) W := fun W => ix78 _ e (by omega) _ hf W
      have hpos : 0 < (e : Int) := by omega
      clear hf hfl
      go_wp2_with (first
        | (go_at_call 39; (with_reducible refine (VC.out _ (HW.out.up (bl B.out))).mono ?_); rintro _ w1 ⟨rfl, hb1⟩; have B_ := Aside0.mk (below_step (bl B.out) hb1); have Z_ := Aside0.mk (blk_below (blk_below Z.out climb) hb1); clear B Z hb1; have B := B_; have Z := Z_; clear B_ Z_; obtain ⟨y0, y1, y2, y3, y4, y5, y6, y7, y8, f0, f1, f2, f3, f4, f5, f6, f7, f8⟩ := zer_cells Z.out))
      refine bodyPost_ret (results_cell_row rfl _ _ g2 33 (zv 4 ⟨#[]⟩ ⟨#[]⟩ ⟨#[]⟩ false (e : Int) 0 0 none 0 0) (0, 0) _ rfl (blk_put (cs' := (zv 4 ⟨#[]⟩ ⟨#[]⟩ ⟨#[]⟩ false (e : Int) 0 0 none 0 0)) (blk_put (cs' := (zv 4 ⟨#[]⟩ ⟨#[]⟩ ⟨#[]⟩ false (e : Int) 0 0 none 0 0)) (blk_put (cs' := (zv 4 ⟨#[]⟩ ⟨#[]⟩ ⟨#[]⟩ false (e : Int) 0 0 none 0 0)) (blk_put (cs' := (zv 4 ⟨#[]⟩ ⟨#[]⟩ ⟨#[]⟩ false (e : Int) 0 0 none 0 0)) (blk_put (cs' := (zv 4 ⟨#[]⟩ ⟨#[]⟩ ⟨#[]⟩ false 0 0 0 none 0 0)) (blk_put (cs' := (zv 4 ⟨#[]⟩ ⟨#[]⟩ ⟨#[]⟩ false 0 0 0 none 0 0)) (blk_put (cs' := (zv 4 ⟨#[]⟩ ⟨#[]⟩ ⟨#[]⟩ false 0 0 0 none 0 0)) (blk_put (cs' := (zv 4 ⟨#[]⟩ ⟨#[]⟩ ⟨#[]⟩ false 0 0 0 none 0 0)) (blk_put (cs' := (zv 4 ⟨#[]⟩ ⟨#[]⟩ ⟨#[]⟩ false 0 0 0 none 0 0)) Z.out 0 _ rfl) 1 _ rfl) 2 _ rfl) 3 _ rfl) 4 _ rfl) 5 _ rfl) 6 _ rfl) 7 _ rfl) 8 _ rfl) Tryz.underlying33 rfl (by kernel_rfl)) rfl ?_
      exact ⟨rfl, (below_set (below_set (below_set (below_set (below_set (below_set (below_set (below_set (below_set B.out HGG.out) HGG.out) HGG.out) HGG.out) HGG.out) HGG.out) HGG.out) HGG.out) HGG.out)⟩
set_option maxHeartbeats 8000000 in
set_option maxRecDepth 100000 in
theorem enter_num (S l t o : ByteArray) (m : Nat) (hS : S.toList.isEmpty = false) (hT : ∀ w, Wd w → Calls Tryz.prog 20 #[.string S] w fun x w' => x = .returned (.int .i64 0) ∧ Below w.heap.size w w') (hp : strings_CutPrefix.f S ⟨#[39]⟩ = some (S, false)) (hl : ∀ w, Calls Tryz.prog 42 #[.string S] w fun x w' => x = .returned (.string l) ∧ Below w.heap.size w w') (h1 : (l.toList == [116, 114, 117, 101]) = false) (h2 : (l.toList == [102, 97, 108, 115, 101]) = false) (hne : ∀ e f, 1 ≤ e → e < 9 → faultsL[e]? = some f → (S.toList == f.toList) = false) (hnum : ∀ w, Gl w → Calls Tryz.prog 44 #[.string S] w fun x w' => x = .returned (.tuple #[.agg #[.string t, .string o], .bool true]) ∧ Below w.heap.size w w') (hC : exact_Check.f m t o = some 0) (w : World) (hW : Wd w) :
    Calls Tryz.prog 15 #[.string S] w fun x w' => x = .returned (.agg #[.int .i64 1, .string t, .string o, .string ⟨#[]⟩, .bool false, .int .i64 0, .int .i64 0, .int .i64 0, .slice none 0 0]) ∧ Below w.heap.size w w' := by
  have TC := Aside0.mk hT
  have PC := Aside0.mk (fun w hGl => strings_CutPrefix.calls S ⟨#[39]⟩ S false w hGl hp)
  have LC := Aside0.mk hl
  have HW := Aside0.mk hW
  have HN := Aside0.mk (fun w (h : Fs w) => h.nine2)
  have VC := Aside0.mk (fun w hGl => number_val t o m w hGl hC)
  have NC := Aside0.mk hnum
  have HNE := Aside0.mk hne
  clear hT hp hl hW hne hnum hC
  go_enter Tryz.func15, Tryz.ntmps15
  go_upto_region 1 with (fail)
  obtain ⟨g2, hg2⟩ : ∃ g2, g2 = w.heap.size := ⟨_, rfl⟩
  have Z := Aside0.mk (show (w.alloc (.cells (zv 0 ⟨#[]⟩ ⟨#[]⟩ ⟨#[]⟩ false 0 0 0 none 0 0) 33)).heap[g2]? = some (.cells (zv 0 ⟨#[]⟩ ⟨#[]⟩ ⟨#[]⟩ false 0 0 0 none 0 0) 33 (0, 0)) from hg2 ▸ blk_new w _)
  have B := Aside0.mk (show Below w.heap.size w (w.alloc (.cells (zv 0 ⟨#[]⟩ ⟨#[]⟩ ⟨#[]⟩ false 0 0 0 none 0 0) 33)) from climb)
  obtain ⟨W, hW⟩ : ∃ W, W = (w.alloc (.cells (zv 0 ⟨#[]⟩ ⟨#[]⟩ ⟨#[]⟩ false 0 0 0 none 0 0) 33)) := ⟨_, rfl⟩
  rw [← hW] at Z B ⊢
  rw [← hg2]
  have HGG := Aside0.mk (show w.heap.size ≤ g2 by omega)
  clear hW hg2
  go_upto_region 11 with (first
    | (go_at_call 20; (with_reducible refine (TC.out _ (HW.out.up (bl B.out))).mono ?_); rintro _ w1 ⟨rfl, hb1⟩; have B_ := Aside0.mk (below_step (bl B.out) hb1); have Z_ := Aside0.mk (blk_below (blk_below Z.out climb) hb1); clear B Z hb1; have B := B_; have Z := Z_; clear B_ Z_)
    | (go_at_call 40; (with_reducible refine (PC.out _ (HW.out.up (bl B.out)).gl).mono ?_); rintro _ w1 ⟨rfl, hd1⟩; have hb1 := hd1.below; have B_ := Aside0.mk (below_step (bl B.out) hb1); have Z_ := Aside0.mk (blk_below (blk_below Z.out climb) hb1); clear B Z hb1 hd1; have B := B_; have Z := Z_; clear B_ Z_)
    | (go_at_call 42; (with_reducible refine (LC.out _).mono ?_); rintro _ w1 ⟨rfl, hb1⟩; have B_ := Aside0.mk (below_step (bl B.out) hb1); have Z_ := Aside0.mk (blk_below (blk_below Z.out climb) hb1); clear B Z hb1; have B := B_; have Z := Z_; clear B_ Z_))
  obtain ⟨f0, f1, f2, f3, f4, f5, f6, f7, f8, n0, n1, n2, n3, n4, n5, n6, n7, n8, hall⟩ := HN.out _ (HW.out.fs.below B.out)
  have HALL := Aside0.mk hall
  clear hall
  go_wp2_with (fail)
  go_loopg [39] 9 (fun kq v39 w' => ∃ (e : Nat), v39 = .int .i64 (e : Int) ∧ e + kq = 9 ∧  Aside0 (w'.heap[g2]? = some (.cells (zv 0 ⟨#[]⟩ ⟨#[]⟩ ⟨#[]⟩ false 0 0 0 none 0 0) 33 (0, 0))) ∧ Aside0 (Below w.heap.size w w'))
  case atStart => exact ⟨0, rfl, by omega, ⟨blk_below Z.out climb⟩, ⟨bl B.out⟩⟩
  case round =>
    clear Z B n0 n1 n2 n3 n4 n5 n6 n7 n8
    obtain ⟨e, rfl, hk, Z, B⟩ := hrel
    by_cases he : e < 9
    · obtain ⟨g1, hg1⟩ : ∃ g1, gk = g1 + 1 := ⟨gk - 1, by omega⟩
      have HG1 := Aside0.mk hg1
      clear hg1
      obtain ⟨f, hf, hfl⟩ := HALL.out e (by omega)
      have hix : ∀ W, (Instr.index 78 (.agg #[.string f0, .string f1, .string f2, .string f3, .string f4, .string f5, .string f6, .string f7, .string f8]) (.int .i64 (e : Int))).run Tryz.prog W = .ok (.string f) W := fun W => ix78 _ e (by omega) _ hf W
      clear hf
      by_cases hpos : 0 < (e : Int)
      · have hq := HNE.out e f (by omega) (by omega) hfl
        clear hfl
        go_wp2
        go_roundg g1
        case measure => have := HG1.out; omega
        case rel => have := HG1.out; exact ⟨e + 1, by go_num, by omega, ⟨blk_below Z.out climb⟩, ⟨bl B.out⟩⟩
      · clear hfl
        go_wp2
        go_roundg g1
        case measure => have := HG1.out; omega
        case rel => have := HG1.out; exact ⟨e + 1, by go_num, by omega, ⟨blk_below Z.out climb⟩, ⟨bl B.out⟩⟩
    · clear HALL
      go_wp2_with (fail)
      go_loopg [54] 0 (fun kq v54 w' => v54 = .int .i64 0 ∧ Aside0 (w'.heap[g2]? = some (.cells (zv 0 ⟨#[]⟩ ⟨#[]⟩ ⟨#[]⟩ false 0 0 0 none 0 0) 33 (0, 0))) ∧ Aside0 (Below w.heap.size w w'))
      case atStart => exact ⟨rfl, ⟨blk_below Z.out climb⟩, ⟨bl B.out⟩⟩
      case round =>
        clear Z B
        obtain ⟨rfl, Z, B⟩ := hrel
        have hx0 := ix80_0
        go_upto_region 22 with (first
          | (go_at_call 44; (with_reducible refine (NC.out _ (HW.out.up (bl B.out)).gl).mono ?_); rintro _ w1 ⟨rfl, hb1⟩; have B_ := Aside0.mk (below_step (bl B.out) hb1); have Z_ := Aside0.mk (blk_below (blk_below Z.out climb) hb1); clear B Z hb1; have B := B_; have Z := Z_; clear B_ Z_))
        have K2 := Aside0.mk (blk_alloc Z.out (.cells #[.string t, .string o] 30))
        have K3 := Aside0.mk (blk_new w1 (.cells #[.string t, .string o] 30))
        have B2 := Aside0.mk (show Below w.heap.size w (w1.alloc (.cells #[.string t, .string o] 30)) from below_step B.out climb)
        obtain ⟨W2, hW2⟩ : ∃ W2, W2 = w1.alloc (.cells #[.string t, .string o] 30) := ⟨_, rfl⟩
        rw [← hW2] at K2 K3 B2 ⊢
        clear hW2 Z B
        have Z := K2
        have B := B2
        clear K2 B2
        obtain ⟨m0, m1, _, _⟩ := fr_cells K3.out
        go_wp2_with (first
          | (go_at_call 49; (with_reducible refine (VC.out _ (HW.out.up (bl B.out)).gl).mono ?_); rintro _ w1 ⟨rfl, hb1⟩; have B_ := Aside0.mk (below_step (bl B.out) hb1); have Z_ := Aside0.mk (blk_below (blk_below Z.out climb) hb1); clear B Z hb1 K3 m0 m1; have B := B_; have Z := Z_; clear B_ Z_; obtain ⟨y0, y1, y2, y3, y4, y5, y6, y7, y8, f0, f1, f2, f3, f4, f5, f6, f7, f8⟩ := zer_cells Z.out))
        refine bodyPost_ret (results_cell_row rfl _ _ g2 33 (zv 1 t o ⟨#[]⟩ false 0 0 0 none 0 0) (0, 0) _ rfl (blk_put (cs' := (zv 1 t o ⟨#[]⟩ false 0 0 0 none 0 0)) (blk_put (cs' := (zv 1 t o ⟨#[]⟩ false 0 0 0 none 0 0)) (blk_put (cs' := (zv 1 t o ⟨#[]⟩ false 0 0 0 none 0 0)) (blk_put (cs' := (zv 1 t o ⟨#[]⟩ false 0 0 0 none 0 0)) (blk_put (cs' := (zv 1 t o ⟨#[]⟩ false 0 0 0 none 0 0)) (blk_put (cs' := (zv 1 t o ⟨#[]⟩ false 0 0 0 none 0 0)) (blk_put (cs' := (zv 1 t o ⟨#[]⟩ false 0 0 0 none 0 0)) (blk_put (cs' := (zv 1 t ⟨#[]⟩ ⟨#[]⟩ false 0 0 0 none 0 0)) (blk_put (cs' := (zv 1 ⟨#[]⟩ ⟨#[]⟩ ⟨#[]⟩ false 0 0 0 none 0 0)) Z.out 0 _ rfl) 1 _ rfl) 2 _ rfl) 3 _ rfl) 4 _ rfl) 5 _ rfl) 6 _ rfl) 7 _ rfl) 8 _ rfl) Tryz.underlying33 rfl (by kernel_rfl)) rfl ?_
        exact ⟨rfl, (below_set (below_set (below_set (below_set (below_set (below_set (below_set (below_set (below_set B.out HGG.out) HGG.out) HGG.out) HGG.out) HGG.out) HGG.out) HGG.out) HGG.out) HGG.out)⟩
end Go.Proofs.YtckfdhnimmaeiaaGreatDoor.Pr
