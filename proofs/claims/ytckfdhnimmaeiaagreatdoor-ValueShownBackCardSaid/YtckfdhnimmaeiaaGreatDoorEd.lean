/- value.Check, zeros, valid, Number of a number. -/
import Derived.Test.YtckfdhnimmaeiaaGreatDoorEa
namespace Go.Proofs.YtckfdhnimmaeiaaGreatDoor.Pr
open Go.RowKit Go.Proofs.YtckfdhnimmaeiaaGreatDoorW.PrintWords Go.Proofs.YtckfdhnimmaeiaaGreatDoorW.PrintLast Go.Proofs.YtckfdhnimmaeiaaGreatDoorW.PrintMore
set_option linter.unusedVariables false
set_option linter.unusedSimpArgs false
/-- The fields of a value. -/
abbrev zv (k : Int) (t o s : ByteArray) (b : Bool) (c r q : Int) (p : Option Addr) (n m : Nat) : Array Value := #[.int .i64 k, .string t, .string o, .string s, .bool b, .int .i64 c, .int .i64 r, .int .i64 q, .slice p n m]
theorem box33 (w : World) (v : Array Value) : ∃ g W, w.heap.size = g ∧ w.alloc (.cells v 33) = W ∧ Aside0 (W.heap[g]? = some (.cells v 33 (0, 0))) ∧ Aside0 (Below w.heap.size w W) :=
  ⟨_, _, rfl, rfl, ⟨blk_new w _⟩, ⟨climb⟩⟩
/-- A number's cells. -/
def numA (t o : ByteArray) : Array Value := #[.int .i64 1, .string t, .string o, .string ⟨#[]⟩, .bool false, .int .i64 0, .int .i64 0, .int .i64 0, .slice none 0 0]
theorem num_cells {w : World} {g : Nat} {t o : ByteArray} (h : w.heap[g]? = some (.cells (numA t o) 33 (0, 0))) :
    w.cell? ⟨g, 0, none⟩ = some (.int .i64 1) ∧ w.cell? ⟨g, 1, none⟩ = some (.string t) ∧ w.cell? ⟨g, 2, none⟩ = some (.string o) ∧ w.cell? ⟨g, 3, none⟩ = some (.string ⟨#[]⟩) ∧ w.cell? ⟨g, 4, none⟩ = some (.bool false) ∧ w.cell? ⟨g, 5, none⟩ = some (.int .i64 0) ∧ w.cell? ⟨g, 6, none⟩ = some (.int .i64 0) ∧ w.cell? ⟨g, 7, none⟩ = some (.int .i64 0) ∧ w.cell? ⟨g, 8, none⟩ = some (.slice none 0 0) :=
  ⟨(blk_cell h 0).trans rfl, (blk_cell h 1).trans rfl, (blk_cell h 2).trans rfl, (blk_cell h 3).trans rfl, (blk_cell h 4).trans rfl, (blk_cell h 5).trans rfl, (blk_cell h 6).trans rfl, (blk_cell h 7).trans rfl, (blk_cell h 8).trans rfl⟩
set_option maxHeartbeats 2000000 in
set_option maxRecDepth 100000 in
theorem zeros_num (t o : ByteArray) (w : World) :
    Calls Tryz.prog 18 #[.agg #[.int .i64 1, .string t, .string o, .string ⟨#[]⟩, .bool false, .int .i64 0, .int .i64 0, .int .i64 0, .slice none 0 0]] w fun x w' => x = .returned (.int .i64 0) ∧ Below w.heap.size w w' := by
  go_enter Tryz.func18, Tryz.ntmps18
  go_upto_region 1 with (fail)
  obtain ⟨g, W, hg, hW, K, B⟩ := box33 w (zv 1 t o ⟨#[]⟩ false 0 0 0 none 0 0)
  rw [hW, hg]
  clear hW hg
  obtain ⟨c0, c1, c2, c3, c4, c5, c6, c7, c8⟩ := num_cells K.out
  go_wp2
  go_ret
  exact ⟨rfl, bl B.out⟩
set_option maxHeartbeats 2000000 in
set_option maxRecDepth 100000 in
theorem check_num (t o : ByteArray) (k : Nat) (w : World) (hGl : Gl w) (hC : exact_Check.f k t o = some 0) :
    Calls Tryz.prog 10 #[.agg #[.int .i64 1, .string t, .string o, .string ⟨#[]⟩, .bool false, .int .i64 0, .int .i64 0, .int .i64 0, .slice none 0 0]] w fun x w' => x = .returned (.int .i64 0) ∧ Below w.heap.size w w' := by
  have CC := Aside0.mk (fun w hGl => exact_Check.calls k t o 0 w hGl hC)
  have HG := Aside0.mk hGl
  clear hC hGl
  go_enter Tryz.func10, Tryz.ntmps10
  go_upto_region 1 with (fail)
  obtain ⟨g, W, hg, hW, K, B⟩ := box33 w (zv 1 t o ⟨#[]⟩ false 0 0 0 none 0 0)
  rw [hW, hg]
  clear hW hg
  obtain ⟨c0, c1, c2, c3, c4, c5, c6, c7, c8⟩ := num_cells K.out
  go_upto_region 6 with (first
    | (go_at_call 18; (with_reducible refine (zeros_num t o _).mono ?_); rintro _ w1 ⟨rfl, hb1⟩; have B_ := Aside0.mk (below_step (bl B.out) hb1); have K_ := Aside0.mk (blk_below (blk_below K.out climb) hb1); clear B K hb1 c0 c1 c2 c3 c4 c5 c6 c7 c8; have B := B_; have K := K_; clear B_ K_; obtain ⟨c0, c1, c2, _⟩ := num_cells K.out))
  go_wp2_with (first
    | (go_at_call 19; (with_reducible refine (CC.out _ (gl_below HG.out (bl B.out))).mono ?_); rintro _ w1 ⟨rfl, hb1⟩; have B_ := Aside0.mk (below_step (bl B.out) hb1); clear B hb1; have B := B_; clear B_))
  go_ret
  exact ⟨rfl, bl B.out⟩
set_option maxHeartbeats 4000000 in
set_option maxRecDepth 100000 in
theorem valid_num (t o : ByteArray) (k : Nat) (w : World) (hGl : Gl w) (hC : exact_Check.f k t o = some 0) :
    Calls Tryz.prog 64 #[.agg #[.int .i64 1, .string t, .string o, .string ⟨#[]⟩, .bool false, .int .i64 0, .int .i64 0, .int .i64 0, .slice none 0 0]] w fun x w' => x = .returned (.agg #[.int .i64 1, .string t, .string o, .string ⟨#[]⟩, .bool false, .int .i64 0, .int .i64 0, .int .i64 0, .slice none 0 0]) ∧ Below w.heap.size w w' := by
  have CC := Aside0.mk (fun w hGl => check_num t o k w hGl hC)
  have HG := Aside0.mk hGl
  clear hC hGl
  go_enter Tryz.func64, Tryz.ntmps64
  go_upto_region 1 with (fail)
  obtain ⟨g, hg⟩ : ∃ g, g = w.heap.size := ⟨_, rfl⟩
  obtain ⟨g2, hg2⟩ : ∃ g2, g2 = w.heap.size + 1 := ⟨_, rfl⟩
  have K := Aside0.mk (show ((w.alloc (.cells (zv 1 t o ⟨#[]⟩ false 0 0 0 none 0 0) 33)).alloc (.cells (zv 0 ⟨#[]⟩ ⟨#[]⟩ ⟨#[]⟩ false 0 0 0 none 0 0) 33)).heap[g]? = some (.cells (numA t o) 33 (0, 0)) from hg ▸ blk_alloc (blk_new w _) _)
  have Z := Aside0.mk (show ((w.alloc (.cells (zv 1 t o ⟨#[]⟩ false 0 0 0 none 0 0) 33)).alloc (.cells (zv 0 ⟨#[]⟩ ⟨#[]⟩ ⟨#[]⟩ false 0 0 0 none 0 0) 33)).heap[g2]? = some (.cells (zv 0 ⟨#[]⟩ ⟨#[]⟩ ⟨#[]⟩ false 0 0 0 none 0 0) 33 (0, 0)) by
    have h := blk_new (w.alloc (.cells (zv 1 t o ⟨#[]⟩ false 0 0 0 none 0 0) 33)) (.cells (zv 0 ⟨#[]⟩ ⟨#[]⟩ ⟨#[]⟩ false 0 0 0 none 0 0) 33)
    rw [World.size_alloc, ← hg2] at h
    exact h)
  have B := Aside0.mk (show Below w.heap.size w ((w.alloc (.cells (zv 1 t o ⟨#[]⟩ false 0 0 0 none 0 0) 33)).alloc (.cells (zv 0 ⟨#[]⟩ ⟨#[]⟩ ⟨#[]⟩ false 0 0 0 none 0 0) 33)) from climb)
  obtain ⟨W, hW⟩ : ∃ W, W = (w.alloc (.cells (zv 1 t o ⟨#[]⟩ false 0 0 0 none 0 0) 33)).alloc (.cells (zv 0 ⟨#[]⟩ ⟨#[]⟩ ⟨#[]⟩ false 0 0 0 none 0 0) 33) := ⟨_, rfl⟩
  rw [← hW] at K Z B ⊢
  rw [← hg2, ← hg]
  have HGG := Aside0.mk (show w.heap.size ≤ g2 by omega)
  clear hW hg hg2
  obtain ⟨c0, c1, c2, c3, c4, c5, c6, c7, c8⟩ := num_cells K.out
  go_upto_region 3 with (first
    | (go_at_call 10; (with_reducible refine (CC.out _ (gl_below HG.out (bl B.out))).mono ?_); rintro _ w1 ⟨rfl, hb1⟩; have B_ := Aside0.mk (below_step (bl B.out) hb1); have K_ := Aside0.mk (blk_below (blk_below K.out climb) hb1); have Z_ := Aside0.mk (blk_below (blk_below Z.out climb) hb1); clear B K Z hb1 c0 c1 c2 c3 c4 c5 c6 c7 c8; have B := B_; have K := K_; have Z := Z_; clear B_ K_ Z_; obtain ⟨c0, c1, c2, c3, c4, c5, c6, c7, c8⟩ := num_cells K.out))
  have z0 := (blk_cell Z.out 0).trans rfl
  have f0 := blk_frozen Z.out 0; have f1 := blk_frozen Z.out 1; have f2 := blk_frozen Z.out 2; have f3 := blk_frozen Z.out 3; have f4 := blk_frozen Z.out 4; have f5 := blk_frozen Z.out 5; have f6 := blk_frozen Z.out 6; have f7 := blk_frozen Z.out 7; have f8 := blk_frozen Z.out 8
  have y0 : w1.cell? ⟨g2, 0, none⟩ = some (.int .i64 0) := (blk_cell Z.out 0).trans rfl
  have y1 : w1.cell? ⟨g2, 1, none⟩ = some (.string ⟨#[]⟩) := (blk_cell Z.out 1).trans rfl
  have y2 : w1.cell? ⟨g2, 2, none⟩ = some (.string ⟨#[]⟩) := (blk_cell Z.out 2).trans rfl
  have y3 : w1.cell? ⟨g2, 3, none⟩ = some (.string ⟨#[]⟩) := (blk_cell Z.out 3).trans rfl
  have y4 : w1.cell? ⟨g2, 4, none⟩ = some (.bool false) := (blk_cell Z.out 4).trans rfl
  have y5 : w1.cell? ⟨g2, 5, none⟩ = some (.int .i64 0) := (blk_cell Z.out 5).trans rfl
  have y6 : w1.cell? ⟨g2, 6, none⟩ = some (.int .i64 0) := (blk_cell Z.out 6).trans rfl
  have y7 : w1.cell? ⟨g2, 7, none⟩ = some (.int .i64 0) := (blk_cell Z.out 7).trans rfl
  have y8 : w1.cell? ⟨g2, 8, none⟩ = some (.slice none 0 0) := (blk_cell Z.out 8).trans rfl
  clear z0
  go_wp2
  refine bodyPost_ret (results_cell_row rfl _ _ g2 33 (zv 1 t o ⟨#[]⟩ false 0 0 0 none 0 0) (0, 0) _ rfl (blk_put (cs := (zv 1 t o ⟨#[]⟩ false 0 0 0 none 0 0)) (blk_put (cs := (zv 1 t o ⟨#[]⟩ false 0 0 0 none 0 0)) (blk_put (cs := (zv 1 t o ⟨#[]⟩ false 0 0 0 none 0 0)) (blk_put (cs := (zv 1 t o ⟨#[]⟩ false 0 0 0 none 0 0)) (blk_put (cs := (zv 1 t o ⟨#[]⟩ false 0 0 0 none 0 0)) (blk_put (cs := (zv 1 t o ⟨#[]⟩ false 0 0 0 none 0 0)) (blk_put (cs := (zv 1 t ⟨#[]⟩ ⟨#[]⟩ false 0 0 0 none 0 0)) (blk_put (cs := (zv 1 ⟨#[]⟩ ⟨#[]⟩ ⟨#[]⟩ false 0 0 0 none 0 0)) (blk_put (cs := (zv 0 ⟨#[]⟩ ⟨#[]⟩ ⟨#[]⟩ false 0 0 0 none 0 0)) Z.out 0 _ rfl) 1 _ rfl) 2 _ rfl) 3 _ rfl) 4 _ rfl) 5 _ rfl) 6 _ rfl) 7 _ rfl) 8 _ rfl) Tryz.underlying33 rfl (by kernel_rfl)) rfl ?_
  have hs := HGG.out
  exact ⟨rfl, below_set (below_set (below_set (below_set (below_set (below_set (below_set (below_set (below_set B.out hs) hs) hs) hs) hs) hs) hs) hs) hs⟩
theorem zer_cells {w : World} {g : Nat} (h : w.heap[g]? = some (.cells #[.int .i64 0, .string ⟨#[]⟩, .string ⟨#[]⟩, .string ⟨#[]⟩, .bool false, .int .i64 0, .int .i64 0, .int .i64 0, .slice none 0 0] 33 (0, 0))) :
    w.cell? ⟨g, 0, none⟩ = some (.int .i64 0) ∧ w.cell? ⟨g, 1, none⟩ = some (.string ⟨#[]⟩) ∧ w.cell? ⟨g, 2, none⟩ = some (.string ⟨#[]⟩) ∧ w.cell? ⟨g, 3, none⟩ = some (.string ⟨#[]⟩) ∧ w.cell? ⟨g, 4, none⟩ = some (.bool false) ∧ w.cell? ⟨g, 5, none⟩ = some (.int .i64 0) ∧ w.cell? ⟨g, 6, none⟩ = some (.int .i64 0) ∧ w.cell? ⟨g, 7, none⟩ = some (.int .i64 0) ∧ w.cell? ⟨g, 8, none⟩ = some (.slice none 0 0) ∧ w.frozen? ⟨g, 0, none⟩ = false ∧ w.frozen? ⟨g, 1, none⟩ = false ∧ w.frozen? ⟨g, 2, none⟩ = false ∧ w.frozen? ⟨g, 3, none⟩ = false ∧ w.frozen? ⟨g, 4, none⟩ = false ∧ w.frozen? ⟨g, 5, none⟩ = false ∧ w.frozen? ⟨g, 6, none⟩ = false ∧ w.frozen? ⟨g, 7, none⟩ = false ∧ w.frozen? ⟨g, 8, none⟩ = false :=
  ⟨(blk_cell h 0).trans rfl, (blk_cell h 1).trans rfl, (blk_cell h 2).trans rfl, (blk_cell h 3).trans rfl, (blk_cell h 4).trans rfl, (blk_cell h 5).trans rfl, (blk_cell h 6).trans rfl, (blk_cell h 7).trans rfl, (blk_cell h 8).trans rfl, blk_frozen h 0, blk_frozen h 1, blk_frozen h 2, blk_frozen h 3, blk_frozen h 4, blk_frozen h 5, blk_frozen h 6, blk_frozen h 7, blk_frozen h 8⟩
set_option maxHeartbeats 4000000 in
set_option maxRecDepth 100000 in
theorem number_val (t o : ByteArray) (k : Nat) (w : World) (hGl : Gl w) (hC : exact_Check.f k t o = some 0) :
    Calls Tryz.prog 49 #[.agg #[.string t, .string o]] w fun x w' => x = .returned (.agg #[.int .i64 1, .string t, .string o, .string ⟨#[]⟩, .bool false, .int .i64 0, .int .i64 0, .int .i64 0, .slice none 0 0]) ∧ Below w.heap.size w w' := by
  have VC := Aside0.mk (fun w hGl => valid_num t o k w hGl hC)
  have HG := Aside0.mk hGl
  clear hC hGl
  go_enter Tryz.func49, Tryz.ntmps49
  go_upto_region 1 with (fail)
  obtain ⟨g, hg⟩ : ∃ g, g = w.heap.size := ⟨_, rfl⟩
  obtain ⟨g2, hg2⟩ : ∃ g2, g2 = w.heap.size + 1 := ⟨_, rfl⟩
  have K := Aside0.mk (show ((w.alloc (.cells #[.string t, .string o] 30)).alloc (.cells (zv 0 ⟨#[]⟩ ⟨#[]⟩ ⟨#[]⟩ false 0 0 0 none 0 0) 33)).heap[g]? = some (.cells #[.string t, .string o] 30 (0, 0)) from hg ▸ blk_alloc (blk_new w _) _)
  have Z := Aside0.mk (show ((w.alloc (.cells #[.string t, .string o] 30)).alloc (.cells (zv 0 ⟨#[]⟩ ⟨#[]⟩ ⟨#[]⟩ false 0 0 0 none 0 0) 33)).heap[g2]? = some (.cells (zv 0 ⟨#[]⟩ ⟨#[]⟩ ⟨#[]⟩ false 0 0 0 none 0 0) 33 (0, 0)) by
    have h := blk_new (w.alloc (.cells #[.string t, .string o] 30)) (.cells (zv 0 ⟨#[]⟩ ⟨#[]⟩ ⟨#[]⟩ false 0 0 0 none 0 0) 33)
    rw [World.size_alloc, ← hg2] at h
    exact h)
  have B := Aside0.mk (show Below w.heap.size w ((w.alloc (.cells #[.string t, .string o] 30)).alloc (.cells (zv 0 ⟨#[]⟩ ⟨#[]⟩ ⟨#[]⟩ false 0 0 0 none 0 0) 33)) from climb)
  obtain ⟨W, hW⟩ : ∃ W, W = (w.alloc (.cells #[.string t, .string o] 30)).alloc (.cells (zv 0 ⟨#[]⟩ ⟨#[]⟩ ⟨#[]⟩ false 0 0 0 none 0 0) 33) := ⟨_, rfl⟩
  rw [← hW] at K Z B ⊢
  rw [← hg2, ← hg]
  have HGG := Aside0.mk (show w.heap.size ≤ g2 by omega)
  clear hW hg hg2
  obtain ⟨c0, c1, _, _⟩ := fr_cells K.out
  go_wp2_with (first
    | (go_at_call 64; (with_reducible refine (VC.out _ (gl_below HG.out (bl B.out))).mono ?_); rintro _ w1 ⟨rfl, hb1⟩; have B_ := Aside0.mk (below_step (bl B.out) hb1); have Z_ := Aside0.mk (blk_below (blk_below Z.out climb) hb1); clear B Z hb1 c0 c1 K; have B := B_; have Z := Z_; clear B_ Z_; obtain ⟨y0, y1, y2, y3, y4, y5, y6, y7, y8, f0, f1, f2, f3, f4, f5, f6, f7, f8⟩ := zer_cells Z.out))
  refine bodyPost_ret (results_cell_row rfl _ _ g2 33 (zv 1 t o ⟨#[]⟩ false 0 0 0 none 0 0) (0, 0) _ rfl (blk_put (cs := (zv 1 t o ⟨#[]⟩ false 0 0 0 none 0 0)) (blk_put (cs := (zv 1 t o ⟨#[]⟩ false 0 0 0 none 0 0)) (blk_put (cs := (zv 1 t o ⟨#[]⟩ false 0 0 0 none 0 0)) (blk_put (cs := (zv 1 t o ⟨#[]⟩ false 0 0 0 none 0 0)) (blk_put (cs := (zv 1 t o ⟨#[]⟩ false 0 0 0 none 0 0)) (blk_put (cs := (zv 1 t o ⟨#[]⟩ false 0 0 0 none 0 0)) (blk_put (cs := (zv 1 t ⟨#[]⟩ ⟨#[]⟩ false 0 0 0 none 0 0)) (blk_put (cs := (zv 1 ⟨#[]⟩ ⟨#[]⟩ ⟨#[]⟩ false 0 0 0 none 0 0)) (blk_put (cs := (zv 0 ⟨#[]⟩ ⟨#[]⟩ ⟨#[]⟩ false 0 0 0 none 0 0)) Z.out 0 _ rfl) 1 _ rfl) 2 _ rfl) 3 _ rfl) 4 _ rfl) 5 _ rfl) 6 _ rfl) 7 _ rfl) 8 _ rfl) Tryz.underlying33 rfl (by kernel_rfl)) rfl ?_
  have hs := HGG.out
  exact ⟨rfl, below_set (below_set (below_set (below_set (below_set (below_set (below_set (below_set (below_set B.out hs) hs) hs) hs) hs) hs) hs) hs) hs⟩
end Go.Proofs.YtckfdhnimmaeiaaGreatDoor.Pr
