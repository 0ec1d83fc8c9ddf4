/- Values that are made: valid, Text, Fault, Bool; FaultText (printed by wip/tools/mkgs.py). -/
import Derived.Test.YtckfdhnimmaeiaaGreatDoorFg
import Derived.Test.YtckfdhnimmaeiaaGreatDoorFh
namespace Go.Proofs.YtckfdhnimmaeiaaGreatDoor.Pr
open Go.RowKit Go.Proofs.YtckfdhnimmaeiaaGreatDoorW.PrintWords Go.Proofs.YtckfdhnimmaeiaaGreatDoorW.PrintLast Go.Proofs.YtckfdhnimmaeiaaGreatDoorW.PrintMore
set_option linter.unusedVariables false
set_option linter.unusedSimpArgs false
attribute [local go_sem high] eqA30
set_option maxHeartbeats 8000000 in
set_option maxRecDepth 100000 in
theorem valid_gen (k : Int) (t o s : ByteArray) (b : Bool) (c r q : Int) (p : Option Addr) (n p0 : Nat) (hC : ∀ w, Wd w → Calls Tryz.prog 10 #[.agg #[.int .i64 k, .string t, .string o, .string s, .bool b, .int .i64 c, .int .i64 r, .int .i64 q, .slice p n p0]] w fun x w' => x = .returned (.int .i64 0) ∧ Below w.heap.size w w') (w : World) (hW : Wd w) :
    Calls Tryz.prog 64 #[.agg #[.int .i64 k, .string t, .string o, .string s, .bool b, .int .i64 c, .int .i64 r, .int .i64 q, .slice p n p0]] w fun x w' => x = .returned (.agg #[.int .i64 k, .string t, .string o, .string s, .bool b, .int .i64 c, .int .i64 r, .int .i64 q, .slice p n p0]) ∧ Below w.heap.size w w' := by
  have CC := Aside0.mk hC
  have HW := Aside0.mk hW
  clear hC hW
  go_enter Tryz.func64, Tryz.ntmps64
  go_upto_region 1 with (fail)
  obtain ⟨g, hg⟩ : ∃ g, g = w.heap.size := ⟨_, rfl⟩
  obtain ⟨g2, hg2⟩ : ∃ g2, g2 = w.heap.size + 1 := ⟨_, rfl⟩
  have K := Aside0.mk (show ((w.alloc (.cells (zv k t o s b c r q p n p0) 33)).alloc (.cells (zv 0 ⟨#[]⟩ ⟨#[]⟩ ⟨#[]⟩ false 0 0 0 none 0 0) 33)).heap[g]? = some (.cells (zv k t o s b c r q p n p0) 33 (0, 0)) from hg ▸ blk_alloc (blk_new w _) _)
  have Z := Aside0.mk (show ((w.alloc (.cells (zv k t o s b c r q p n p0) 33)).alloc (.cells (zv 0 ⟨#[]⟩ ⟨#[]⟩ ⟨#[]⟩ false 0 0 0 none 0 0) 33)).heap[g2]? = some (.cells (zv 0 ⟨#[]⟩ ⟨#[]⟩ ⟨#[]⟩ false 0 0 0 none 0 0) 33 (0, 0)) by have h := blk_new (w.alloc (.cells (zv k t o s b c r q p n p0) 33)) (.cells (zv 0 ⟨#[]⟩ ⟨#[]⟩ ⟨#[]⟩ false 0 0 0 none 0 0) 33); rw [World.size_alloc, ← hg2] at h; exact h)
  have B := Aside0.mk (show Below w.heap.size w ((w.alloc (.cells (zv k t o s b c r q p n p0) 33)).alloc (.cells (zv 0 ⟨#[]⟩ ⟨#[]⟩ ⟨#[]⟩ false 0 0 0 none 0 0) 33)) from climb)
  obtain ⟨W, hW⟩ : ∃ W, W = ((w.alloc (.cells (zv k t o s b c r q p n p0) 33)).alloc (.cells (zv 0 ⟨#[]⟩ ⟨#[]⟩ ⟨#[]⟩ false 0 0 0 none 0 0) 33)) := ⟨_, rfl⟩
  rw [← hW] at K Z B ⊢
  rw [← hg2, ← hg]
  have HGG := Aside0.mk (show w.heap.size ≤ g2 by omega)
  clear hW hg hg2
  obtain ⟨c0, c1, c2, c3, c4, c5, c6, c7, c8⟩ := val_cells K.out
  go_upto_region 3 with (first
    | (go_at_call 10; (with_reducible refine (CC.out _ (HW.out.up (bl B.out))).mono ?_); rintro _ w1 ⟨rfl, hb1⟩; have B_ := Aside0.mk (below_step (bl B.out) hb1); have K_ := Aside0.mk (blk_below (blk_below K.out climb) hb1); have Z_ := Aside0.mk (blk_below (blk_below Z.out climb) hb1); clear B K Z hb1 c0 c1 c2 c3 c4 c5 c6 c7 c8; have B := B_; have K := K_; have Z := Z_; clear B_ K_ Z_; obtain ⟨c0, c1, c2, c3, c4, c5, c6, c7, c8⟩ := val_cells K.out))
  obtain ⟨y0, y1, y2, y3, y4, y5, y6, y7, y8, f0, f1, f2, f3, f4, f5, f6, f7, f8⟩ := zer_cells Z.out
  go_wp2
  refine bodyPost_ret (results_cell_row rfl _ _ g2 33 (zv k t o s b c r q p n p0) (0, 0) _ rfl (blk_put (cs' := (zv k t o s b c r q p n p0)) (blk_put (cs' := (zv k t o s b c r q none 0 0)) (blk_put (cs' := (zv k t o s b c r 0 none 0 0)) (blk_put (cs' := (zv k t o s b c 0 0 none 0 0)) (blk_put (cs' := (zv k t o s b 0 0 0 none 0 0)) (blk_put (cs' := (zv k t o s false 0 0 0 none 0 0)) (blk_put (cs' := (zv k t o ⟨#[]⟩ false 0 0 0 none 0 0)) (blk_put (cs' := (zv k t ⟨#[]⟩ ⟨#[]⟩ false 0 0 0 none 0 0)) (blk_put (cs' := (zv k ⟨#[]⟩ ⟨#[]⟩ ⟨#[]⟩ false 0 0 0 none 0 0)) Z.out 0 _ rfl) 1 _ rfl) 2 _ rfl) 3 _ rfl) 4 _ rfl) 5 _ rfl) 6 _ rfl) 7 _ rfl) 8 _ rfl) Tryz.underlying33 rfl (by kernel_rfl)) rfl ?_
  exact ⟨rfl, (below_set (below_set (below_set (below_set (below_set (below_set (below_set (below_set (below_set B.out HGG.out) HGG.out) HGG.out) HGG.out) HGG.out) HGG.out) HGG.out) HGG.out) HGG.out)⟩
set_option maxHeartbeats 8000000 in
set_option maxRecDepth 100000 in
theorem zeros_t (s : ByteArray) (w : World) : Calls Tryz.prog 18 #[.agg #[.int .i64 2, .string ⟨#[]⟩, .string ⟨#[]⟩, .string s, .bool false, .int .i64 0, .int .i64 0, .int .i64 0, .slice none 0 0]] w fun x w' => x = .returned (.int .i64 0) ∧ Below w.heap.size w w' := by
  go_enter Tryz.func18, Tryz.ntmps18
  go_upto_region 1 with (fail)
  obtain ⟨g, W, hg, hW, K, B⟩ := box33 w (zv 2 ⟨#[]⟩ ⟨#[]⟩ s false 0 0 0 none 0 0)
  rw [hW, hg]
  clear hW hg
  obtain ⟨c0, c1, c2, c3, c4, c5, c6, c7, c8⟩ := val_cells K.out
  go_wp2
  go_ret
  exact ⟨rfl, bl B.out⟩
set_option maxHeartbeats 8000000 in
set_option maxRecDepth 100000 in
theorem zeros_f (c : Int) (w : World) : Calls Tryz.prog 18 #[.agg #[.int .i64 4, .string ⟨#[]⟩, .string ⟨#[]⟩, .string ⟨#[]⟩, .bool false, .int .i64 c, .int .i64 0, .int .i64 0, .slice none 0 0]] w fun x w' => x = .returned (.int .i64 0) ∧ Below w.heap.size w w' := by
  go_enter Tryz.func18, Tryz.ntmps18
  go_upto_region 1 with (fail)
  obtain ⟨g, W, hg, hW, K, B⟩ := box33 w (zv 4 ⟨#[]⟩ ⟨#[]⟩ ⟨#[]⟩ false c 0 0 none 0 0)
  rw [hW, hg]
  clear hW hg
  obtain ⟨c0, c1, c2, c3, c4, c5, c6, c7, c8⟩ := val_cells K.out
  go_wp2
  go_ret
  exact ⟨rfl, bl B.out⟩
set_option maxHeartbeats 2000000 in
set_option maxRecDepth 100000 in
/-- value.FaultText of a fault. -/
theorem fault_at (n : Nat) (f : ByteArray) (h1 : 1 ≤ n) (hf : faultsL[n]? = some f) (w : World) (hF : Fs w) : Calls Tryz.prog 21 #[.int .i64 (n : Int)] w fun r w' => r = .returned (.string f) ∧ Below w.heap.size w w' := by
  have hc := hF n f hf
  have hn : n < 9 := (List.getElem?_eq_some_iff.1 hf).1
  have hn1 : ¬ (n : Int) < 1 := by omega
  clear hF hf
  go_enter Tryz.func21, Tryz.ntmps21
  go_wp2
  go_ret
  exact ⟨rfl, climb⟩
theorem fault_no (c : Int) (h : c < 1 ∨ 9 ≤ c) (w : World) : Calls Tryz.prog 21 #[.int .i64 c] w fun r w' => r = .returned (.string ⟨#[]⟩) ∧ Below w.heap.size w w' := by
  rcases h with h | h
  · go_enter Tryz.func21, Tryz.ntmps21
    go_wp2
    go_ret
    exact ⟨rfl, climb⟩
  · have h1 : ¬ c < 1 := by omega
    go_enter Tryz.func21, Tryz.ntmps21
    go_wp2
    go_ret
    exact ⟨rfl, climb⟩
theorem faults_ne {n : Nat} {f : ByteArray} (h1 : 1 ≤ n) (hf : faultsL[n]? = some f) : f ≠ ⟨#[]⟩ := by
  have hn : n < 9 := (List.getElem?_eq_some_iff.1 hf).1
  have : n = 1 ∨ n = 2 ∨ n = 3 ∨ n = 4 ∨ n = 5 ∨ n = 6 ∨ n = 7 ∨ n = 8 := by omega
  rcases this with rfl | rfl | rfl | rfl | rfl | rfl | rfl | rfl <;> (obtain rfl := Option.some.inj hf; decide)
theorem check_t (s : ByteArray) (hs : s.size ≤ maxLen) (hT : textF s = 0) (w : World) (hW : Wd w) : Calls Tryz.prog 10 #[.agg #[.int .i64 2, .string ⟨#[]⟩, .string ⟨#[]⟩, .string s, .bool false, .int .i64 0, .int .i64 0, .int .i64 0, .slice none 0 0]] w fun x w' => x = .returned (.int .i64 0) ∧ Below w.heap.size w w' := by
  have h := check_k2 ⟨#[]⟩ ⟨#[]⟩ s false 0 0 0 none 0 0 hs (fun w => zeros_t s w) w hW
  rw [hT] at h
  exact h
theorem check_f (n : Nat) (f : ByteArray) (h1 : 1 ≤ n) (hf : faultsL[n]? = some f) (w : World) (hW : Wd w) : Calls Tryz.prog 10 #[.agg #[.int .i64 4, .string ⟨#[]⟩, .string ⟨#[]⟩, .string ⟨#[]⟩, .bool false, .int .i64 (n : Int), .int .i64 0, .int .i64 0, .slice none 0 0]] w fun x w' => x = .returned (.int .i64 0) ∧ Below w.heap.size w w' :=
  check_k4a ⟨#[]⟩ ⟨#[]⟩ ⟨#[]⟩ false (n : Int) 0 0 none 0 0 f (fun w hF => fault_at n f h1 hf w hF) (faults_ne h1 hf) (fun w => zeros_f (n : Int) w) w hW
set_option maxHeartbeats 8000000 in
set_option maxRecDepth 100000 in
theorem text_val (s : ByteArray) (hs : s.size ≤ maxLen) (hT : textF s = 0) (w : World) (hW : Wd w) : Calls Tryz.prog 41 #[.string s] w fun x w' => x = .returned (.agg #[.int .i64 2, .string ⟨#[]⟩, .string ⟨#[]⟩, .string s, .bool false, .int .i64 0, .int .i64 0, .int .i64 0, .slice none 0 0]) ∧ Below w.heap.size w w' := by
  have HW := Aside0.mk hW
  have CC := Aside0.mk (fun w hW => valid_gen 2 ⟨#[]⟩ ⟨#[]⟩ s false 0 0 0 none 0 0 (fun w hW => check_t s hs hT w hW) w hW)
  clear hW
  go_enter Tryz.func41, Tryz.ntmps41
  go_upto_region 1 with (fail)
  obtain ⟨g2, hg2⟩ : ∃ g2, g2 = w.heap.size := ⟨_, rfl⟩
  have Z := Aside0.mk (show (w.alloc (.cells (zv 0 ⟨#[]⟩ ⟨#[]⟩ ⟨#[]⟩ false 0 0 0 none 0 0) 33)).heap[g2]? = some (.cells (zv 0 ⟨#[]⟩ ⟨#[]⟩ ⟨#[]⟩ false 0 0 0 none 0 0) 33 (0, 0)) from hg2 ▸ blk_new w _)
  have B := Aside0.mk (show Below w.heap.size w (w.alloc (.cells (zv 0 ⟨#[]⟩ ⟨#[]⟩ ⟨#[]⟩ false 0 0 0 none 0 0) 33)) from climb)
  obtain ⟨W, hW⟩ : ∃ W, W = (w.alloc (.cells (zv 0 ⟨#[]⟩ ⟨#[]⟩ ⟨#[]⟩ false 0 0 0 none 0 0) 33)) := ⟨_, rfl⟩
  rw [← hW] at Z B ⊢
  rw [← hg2]
  have HGG := Aside0.mk (show w.heap.size ≤ g2 by omega)
  clear hW hg2
  go_wp2_with (first
    | (go_at_call 64; (with_reducible refine (CC.out _ (HW.out.up (bl B.out))).mono ?_); rintro _ w1 ⟨rfl, hb1⟩; have B_ := Aside0.mk (below_step (bl B.out) hb1); have Z_ := Aside0.mk (blk_below (blk_below Z.out climb) hb1); clear B Z hb1; have B := B_; have Z := Z_; clear B_ Z_; obtain ⟨y0, y1, y2, y3, y4, y5, y6, y7, y8, f0, f1, f2, f3, f4, f5, f6, f7, f8⟩ := zer_cells Z.out))
  refine bodyPost_ret (results_cell_row rfl _ _ g2 33 (zv 2 ⟨#[]⟩ ⟨#[]⟩ s false 0 0 0 none 0 0) (0, 0) _ rfl (blk_put (cs' := (zv 2 ⟨#[]⟩ ⟨#[]⟩ s false 0 0 0 none 0 0)) (blk_put (cs' := (zv 2 ⟨#[]⟩ ⟨#[]⟩ s false 0 0 0 none 0 0)) (blk_put (cs' := (zv 2 ⟨#[]⟩ ⟨#[]⟩ s false 0 0 0 none 0 0)) (blk_put (cs' := (zv 2 ⟨#[]⟩ ⟨#[]⟩ s false 0 0 0 none 0 0)) (blk_put (cs' := (zv 2 ⟨#[]⟩ ⟨#[]⟩ s false 0 0 0 none 0 0)) (blk_put (cs' := (zv 2 ⟨#[]⟩ ⟨#[]⟩ s false 0 0 0 none 0 0)) (blk_put (cs' := (zv 2 ⟨#[]⟩ ⟨#[]⟩ ⟨#[]⟩ false 0 0 0 none 0 0)) (blk_put (cs' := (zv 2 ⟨#[]⟩ ⟨#[]⟩ ⟨#[]⟩ false 0 0 0 none 0 0)) (blk_put (cs' := (zv 2 ⟨#[]⟩ ⟨#[]⟩ ⟨#[]⟩ false 0 0 0 none 0 0)) Z.out 0 _ rfl) 1 _ rfl) 2 _ rfl) 3 _ rfl) 4 _ rfl) 5 _ rfl) 6 _ rfl) 7 _ rfl) 8 _ rfl) Tryz.underlying33 rfl (by kernel_rfl)) rfl ?_
  exact ⟨rfl, (below_set (below_set (below_set (below_set (below_set (below_set (below_set (below_set (below_set B.out HGG.out) HGG.out) HGG.out) HGG.out) HGG.out) HGG.out) HGG.out) HGG.out) HGG.out)⟩
set_option maxHeartbeats 8000000 in
set_option maxRecDepth 100000 in
theorem fault_val (n : Nat) (f : ByteArray) (h1 : 1 ≤ n) (hf : faultsL[n]? = some f) (w : World) (hW : Wd w) : Calls Tryz.prog 39 #[.int .i64 (n : Int)] w fun x w' => x = .returned (.agg #[.int .i64 4, .string ⟨#[]⟩, .string ⟨#[]⟩, .string ⟨#[]⟩, .bool false, .int .i64 (n : Int), .int .i64 0, .int .i64 0, .slice none 0 0]) ∧ Below w.heap.size w w' := by
  have HW := Aside0.mk hW
  have CC := Aside0.mk (fun w hW => valid_gen 4 ⟨#[]⟩ ⟨#[]⟩ ⟨#[]⟩ false (n : Int) 0 0 none 0 0 (fun w hW => check_f n f h1 hf w hW) w hW)
  clear hW
  go_enter Tryz.func39, Tryz.ntmps39
  go_upto_region 1 with (fail)
  obtain ⟨g2, hg2⟩ : ∃ g2, g2 = w.heap.size := ⟨_, rfl⟩
  have Z := Aside0.mk (show (w.alloc (.cells (zv 0 ⟨#[]⟩ ⟨#[]⟩ ⟨#[]⟩ false 0 0 0 none 0 0) 33)).heap[g2]? = some (.cells (zv 0 ⟨#[]⟩ ⟨#[]⟩ ⟨#[]⟩ false 0 0 0 none 0 0) 33 (0, 0)) from hg2 ▸ blk_new w _)
  have B := Aside0.mk (show Below w.heap.size w (w.alloc (.cells (zv 0 ⟨#[]⟩ ⟨#[]⟩ ⟨#[]⟩ false 0 0 0 none 0 0) 33)) from climb)
  obtain ⟨W, hW⟩ : ∃ W, W = (w.alloc (.cells (zv 0 ⟨#[]⟩ ⟨#[]⟩ ⟨#[]⟩ false 0 0 0 none 0 0) 33)) := ⟨_, rfl⟩
  rw [← hW] at Z B ⊢
  rw [← hg2]
  have HGG := Aside0.mk (show w.heap.size ≤ g2 by omega)
  clear hW hg2
  go_wp2_with (first
    | (go_at_call 64; (with_reducible refine (CC.out _ (HW.out.up (bl B.out))).mono ?_); rintro _ w1 ⟨rfl, hb1⟩; have B_ := Aside0.mk (below_step (bl B.out) hb1); have Z_ := Aside0.mk (blk_below (blk_below Z.out climb) hb1); clear B Z hb1; have B := B_; have Z := Z_; clear B_ Z_; obtain ⟨y0, y1, y2, y3, y4, y5, y6, y7, y8, f0, f1, f2, f3, f4, f5, f6, f7, f8⟩ := zer_cells Z.out))
  refine bodyPost_ret (results_cell_row rfl _ _ g2 33 (zv 4 ⟨#[]⟩ ⟨#[]⟩ ⟨#[]⟩ false (n : Int) 0 0 none 0 0) (0, 0) _ rfl (blk_put (cs' := (zv 4 ⟨#[]⟩ ⟨#[]⟩ ⟨#[]⟩ false (n : Int) 0 0 none 0 0)) (blk_put (cs' := (zv 4 ⟨#[]⟩ ⟨#[]⟩ ⟨#[]⟩ false (n : Int) 0 0 none 0 0)) (blk_put (cs' := (zv 4 ⟨#[]⟩ ⟨#[]⟩ ⟨#[]⟩ false (n : Int) 0 0 none 0 0)) (blk_put (cs' := (zv 4 ⟨#[]⟩ ⟨#[]⟩ ⟨#[]⟩ false (n : Int) 0 0 none 0 0)) (blk_put (cs' := (zv 4 ⟨#[]⟩ ⟨#[]⟩ ⟨#[]⟩ false 0 0 0 none 0 0)) (blk_put (cs' := (zv 4 ⟨#[]⟩ ⟨#[]⟩ ⟨#[]⟩ false 0 0 0 none 0 0)) (blk_put (cs' := (zv 4 ⟨#[]⟩ ⟨#[]⟩ ⟨#[]⟩ false 0 0 0 none 0 0)) (blk_put (cs' := (zv 4 ⟨#[]⟩ ⟨#[]⟩ ⟨#[]⟩ false 0 0 0 none 0 0)) (blk_put (cs' := (zv 4 ⟨#[]⟩ ⟨#[]⟩ ⟨#[]⟩ false 0 0 0 none 0 0)) Z.out 0 _ rfl) 1 _ rfl) 2 _ rfl) 3 _ rfl) 4 _ rfl) 5 _ rfl) 6 _ rfl) 7 _ rfl) 8 _ rfl) Tryz.underlying33 rfl (by kernel_rfl)) rfl ?_
  exact ⟨rfl, (below_set (below_set (below_set (below_set (below_set (below_set (below_set (below_set (below_set B.out HGG.out) HGG.out) HGG.out) HGG.out) HGG.out) HGG.out) HGG.out) HGG.out) HGG.out)⟩
set_option maxHeartbeats 8000000 in
set_option maxRecDepth 100000 in
theorem bool_val (b : Bool)  (w : World) (hW : Wd w) : Calls Tryz.prog 43 #[.bool b] w fun x w' => x = .returned (.agg #[.int .i64 3, .string ⟨#[]⟩, .string ⟨#[]⟩, .string ⟨#[]⟩, .bool b, .int .i64 0, .int .i64 0, .int .i64 0, .slice none 0 0]) ∧ Below w.heap.size w w' := by
  have HW := Aside0.mk hW
  clear hW
  go_enter Tryz.func43, Tryz.ntmps43
  go_upto_region 1 with (fail)
  obtain ⟨g2, hg2⟩ : ∃ g2, g2 = w.heap.size := ⟨_, rfl⟩
  have Z := Aside0.mk (show (w.alloc (.cells (zv 0 ⟨#[]⟩ ⟨#[]⟩ ⟨#[]⟩ false 0 0 0 none 0 0) 33)).heap[g2]? = some (.cells (zv 0 ⟨#[]⟩ ⟨#[]⟩ ⟨#[]⟩ false 0 0 0 none 0 0) 33 (0, 0)) from hg2 ▸ blk_new w _)
  have B := Aside0.mk (show Below w.heap.size w (w.alloc (.cells (zv 0 ⟨#[]⟩ ⟨#[]⟩ ⟨#[]⟩ false 0 0 0 none 0 0) 33)) from climb)
  obtain ⟨W, hW⟩ : ∃ W, W = (w.alloc (.cells (zv 0 ⟨#[]⟩ ⟨#[]⟩ ⟨#[]⟩ false 0 0 0 none 0 0) 33)) := ⟨_, rfl⟩
  rw [← hW] at Z B ⊢
  rw [← hg2]
  have HGG := Aside0.mk (show w.heap.size ≤ g2 by omega)
  clear hW hg2
  obtain ⟨y0, y1, y2, y3, y4, y5, y6, y7, y8, f0, f1, f2, f3, f4, f5, f6, f7, f8⟩ := zer_cells Z.out
  go_wp2
  refine bodyPost_ret (results_cell_row rfl _ _ g2 33 (zv 3 ⟨#[]⟩ ⟨#[]⟩ ⟨#[]⟩ b 0 0 0 none 0 0) (0, 0) _ rfl (blk_put (cs' := (zv 3 ⟨#[]⟩ ⟨#[]⟩ ⟨#[]⟩ b 0 0 0 none 0 0)) (blk_put (cs' := (zv 3 ⟨#[]⟩ ⟨#[]⟩ ⟨#[]⟩ b 0 0 0 none 0 0)) (blk_put (cs' := (zv 3 ⟨#[]⟩ ⟨#[]⟩ ⟨#[]⟩ b 0 0 0 none 0 0)) (blk_put (cs' := (zv 3 ⟨#[]⟩ ⟨#[]⟩ ⟨#[]⟩ b 0 0 0 none 0 0)) (blk_put (cs' := (zv 3 ⟨#[]⟩ ⟨#[]⟩ ⟨#[]⟩ b 0 0 0 none 0 0)) (blk_put (cs' := (zv 3 ⟨#[]⟩ ⟨#[]⟩ ⟨#[]⟩ false 0 0 0 none 0 0)) (blk_put (cs' := (zv 3 ⟨#[]⟩ ⟨#[]⟩ ⟨#[]⟩ false 0 0 0 none 0 0)) (blk_put (cs' := (zv 3 ⟨#[]⟩ ⟨#[]⟩ ⟨#[]⟩ false 0 0 0 none 0 0)) (blk_put (cs' := (zv 3 ⟨#[]⟩ ⟨#[]⟩ ⟨#[]⟩ false 0 0 0 none 0 0)) Z.out 0 _ rfl) 1 _ rfl) 2 _ rfl) 3 _ rfl) 4 _ rfl) 5 _ rfl) 6 _ rfl) 7 _ rfl) 8 _ rfl) Tryz.underlying33 rfl (by kernel_rfl)) rfl ?_
  exact ⟨rfl, (below_set (below_set (below_set (below_set (below_set (below_set (below_set (below_set (below_set B.out HGG.out) HGG.out) HGG.out) HGG.out) HGG.out) HGG.out) HGG.out) HGG.out) HGG.out)⟩
end Go.Proofs.YtckfdhnimmaeiaaGreatDoor.Pr
