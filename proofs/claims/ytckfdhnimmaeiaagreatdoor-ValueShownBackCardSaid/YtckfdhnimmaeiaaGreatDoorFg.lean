/- slices.EqualFunc of nothing, value.Same of equal values (printed by wip/tools/mksame.py). -/
import Derived.Test.YtckfdhnimmaeiaaGreatDoorFd
namespace Go.Proofs.YtckfdhnimmaeiaaGreatDoor.Pr
open Go.RowKit Go.Proofs.YtckfdhnimmaeiaaGreatDoorW.PrintWords Go.Proofs.YtckfdhnimmaeiaaGreatDoorW.PrintLast Go.Proofs.YtckfdhnimmaeiaaGreatDoorW.PrintMore
set_option linter.unusedVariables false
set_option linter.unusedSimpArgs false
attribute [local go_sem high] eqA30
set_option maxHeartbeats 8000000 in
set_option maxRecDepth 100000 in
theorem eqf_calls (p pz : Option Addr) (a az : Nat) (f : Value) (w : World) :
    Calls Tryz.prog 29 #[.slice p 0 a, .slice pz 0 az, f] w fun x w' => x = .returned (.bool true) ∧ Below w.heap.size w w' := by
  go_enter Tryz.func29, Tryz.ntmps29
  go_wp2_with (fail)
  go_loopg [17] 0 (fun kq v17 w' => v17 = .int .i64 0 ∧ w' = w)
  case atStart => exact ⟨rfl, rfl⟩
  case round =>
    obtain ⟨rfl, rfl⟩ := hrel
    go_wp2
    go_ret
    exact ⟨rfl, climb⟩
set_option maxHeartbeats 8000000 in
set_option maxRecDepth 100000 in
theorem same_calls (k : Int) (t o s : ByteArray) (b : Bool) (c r q : Int) (p : Option Addr) (p0 : Nat) (pz : Option Addr) (p0z : Nat) (w : World) :
    Calls Tryz.prog 12 #[.agg #[.int .i64 k, .string t, .string o, .string s, .bool b, .int .i64 c, .int .i64 r, .int .i64 q, .slice p 0 p0], .agg #[.int .i64 k, .string t, .string o, .string s, .bool b, .int .i64 c, .int .i64 r, .int .i64 q, .slice pz 0 p0z]] w fun x w' => x = .returned (.bool true) ∧ Below w.heap.size w w' := by
  have EC := Aside0.mk (fun f w => eqf_calls p pz p0 p0z f w)
  go_enter Tryz.func12, Tryz.ntmps12
  go_upto_region 1 with (fail)
  obtain ⟨g, hg⟩ : ∃ g, g = w.heap.size := ⟨_, rfl⟩
  obtain ⟨g2, hg2⟩ : ∃ g2, g2 = w.heap.size + 1 := ⟨_, rfl⟩
  have K := Aside0.mk (show ((w.alloc (.cells (zv k t o s b c r q p 0 p0) 33)).alloc (.cells (zv k t o s b c r q pz 0 p0z) 33)).heap[g]? = some (.cells (zv k t o s b c r q p 0 p0) 33 (0, 0)) from hg ▸ blk_alloc (blk_new w _) _)
  have L := Aside0.mk (show ((w.alloc (.cells (zv k t o s b c r q p 0 p0) 33)).alloc (.cells (zv k t o s b c r q pz 0 p0z) 33)).heap[g2]? = some (.cells (zv k t o s b c r q pz 0 p0z) 33 (0, 0)) by have h := blk_new (w.alloc (.cells (zv k t o s b c r q p 0 p0) 33)) (.cells (zv k t o s b c r q pz 0 p0z) 33); rw [World.size_alloc, ← hg2] at h; exact h)
  have B := Aside0.mk (show Below w.heap.size w ((w.alloc (.cells (zv k t o s b c r q p 0 p0) 33)).alloc (.cells (zv k t o s b c r q pz 0 p0z) 33)) from climb)
  obtain ⟨W, hW⟩ : ∃ W, W = ((w.alloc (.cells (zv k t o s b c r q p 0 p0) 33)).alloc (.cells (zv k t o s b c r q pz 0 p0z) 33)) := ⟨_, rfl⟩
  rw [← hW] at K L B ⊢
  rw [← hg2, ← hg]
  clear hW hg hg2
  obtain ⟨c0, c1, c2, c3, c4, c5, c6, c7, c8⟩ := val_cells K.out
  obtain ⟨d0, d1, d2, d3, d4, d5, d6, d7, d8⟩ := val_cells L.out
  have C := Aside0.mk (Below.refl W.heap.size W)
  have L0 := Aside0.mk (fun w' (h : Below W.heap.size W w') => (show w'.cell? ⟨g, 0, none⟩ = some (.int .i64 k) ∧ w'.cell? ⟨g, 1, none⟩ = some (.string t) ∧ w'.cell? ⟨g, 2, none⟩ = some (.string o) ∧ w'.cell? ⟨g, 3, none⟩ = some (.string s) ∧ w'.cell? ⟨g, 4, none⟩ = some (.bool b) ∧ w'.cell? ⟨g, 5, none⟩ = some (.int .i64 c) ∧ w'.cell? ⟨g, 6, none⟩ = some (.int .i64 r) ∧ w'.cell? ⟨g, 7, none⟩ = some (.int .i64 q) ∧ w'.cell? ⟨g, 8, none⟩ = some (.slice p 0 p0) ∧ w'.cell? ⟨g2, 0, none⟩ = some (.int .i64 k) ∧ w'.cell? ⟨g2, 1, none⟩ = some (.string t) ∧ w'.cell? ⟨g2, 2, none⟩ = some (.string o) ∧ w'.cell? ⟨g2, 3, none⟩ = some (.string s) ∧ w'.cell? ⟨g2, 4, none⟩ = some (.bool b) ∧ w'.cell? ⟨g2, 5, none⟩ = some (.int .i64 c) ∧ w'.cell? ⟨g2, 6, none⟩ = some (.int .i64 r) ∧ w'.cell? ⟨g2, 7, none⟩ = some (.int .i64 q) ∧ w'.cell? ⟨g2, 8, none⟩ = some (.slice pz 0 p0z) from by obtain ⟨c0, c1, c2, c3, c4, c5, c6, c7, c8⟩ := val_cells (blk_below K.out h); obtain ⟨d0, d1, d2, d3, d4, d5, d6, d7, d8⟩ := val_cells (blk_below L.out h); exact ⟨c0, c1, c2, c3, c4, c5, c6, c7, c8, d0, d1, d2, d3, d4, d5, d6, d7, d8⟩))
  clear c0 c1 c2 c3 c4 c5 c6 c7 c8 d0 d1 d2 d3 d4 d5 d6 d7 d8
  have A0 := Aside0.mk (Nat.le_refl W.heap.size)
  have A1 := Aside0.mk (show W.heap.size ≤ W.heap.size + 1 by omega)
  go_region_held3 (fun w' => w'.cell? ⟨g, 0, none⟩ = some (.int .i64 k) ∧ w'.cell? ⟨g, 1, none⟩ = some (.string t) ∧ w'.cell? ⟨g, 2, none⟩ = some (.string o) ∧ w'.cell? ⟨g, 3, none⟩ = some (.string s) ∧ w'.cell? ⟨g, 4, none⟩ = some (.bool b) ∧ w'.cell? ⟨g, 5, none⟩ = some (.int .i64 c) ∧ w'.cell? ⟨g, 6, none⟩ = some (.int .i64 r) ∧ w'.cell? ⟨g, 7, none⟩ = some (.int .i64 q) ∧ w'.cell? ⟨g, 8, none⟩ = some (.slice p 0 p0) ∧ w'.cell? ⟨g2, 0, none⟩ = some (.int .i64 k) ∧ w'.cell? ⟨g2, 1, none⟩ = some (.string t) ∧ w'.cell? ⟨g2, 2, none⟩ = some (.string o) ∧ w'.cell? ⟨g2, 3, none⟩ = some (.string s) ∧ w'.cell? ⟨g2, 4, none⟩ = some (.bool b) ∧ w'.cell? ⟨g2, 5, none⟩ = some (.int .i64 c) ∧ w'.cell? ⟨g2, 6, none⟩ = some (.int .i64 r) ∧ w'.cell? ⟨g2, 7, none⟩ = some (.int .i64 q) ∧ w'.cell? ⟨g2, 8, none⟩ = some (.slice pz 0 p0z)) (first | exact L0.out _ C.out | exact L0.out _ (bl C.out) | exact L0.out _ climb) (first | fail)
  · obtain ⟨g5, hg5⟩ : ∃ x, x = W.heap.size := ⟨_, rfl⟩
    obtain ⟨g6, hg6⟩ : ∃ x, x = W.heap.size + 1 := ⟨_, rfl⟩
    obtain ⟨W2, hW2⟩ : ∃ x, x = ((W.alloc (.cells (zv k t o s b c r q p 0 p0) 33)).alloc (.cells (zv k t o s b c r q pz 0 p0z) 33)).drew := ⟨_, rfl⟩
    have X := Aside0.mk (show W2.heap[g5]? = some (.cells (zv k t o s b c r q p 0 p0) 33 (0, 0)) by rw [hW2, hg5]; exact blk_drew (blk_alloc (blk_new W _) _))
    have Xz := Aside0.mk (show W2.heap[g6]? = some (.cells (zv k t o s b c r q pz 0 p0z) 33 (0, 0)) by rw [hW2, hg6]; have h := blk_new (W.alloc (.cells (zv k t o s b c r q p 0 p0) 33)) (.cells (zv k t o s b c r q pz 0 p0z) 33); rw [World.size_alloc] at h; exact blk_drew h)
    have U := Aside0.mk (show Below W.heap.size W W2 by rw [hW2]; exact climb)
    have B_ := Aside0.mk (below_step B.out U.out)
    have G5 := Aside0.mk (show w.heap.size ≤ g5 by have := B.out.size; omega)
    have G6 := Aside0.mk (show w.heap.size ≤ g6 by have := B.out.size; omega)
    have hne : g5 ≠ g6 := by omega
    have hge : g ≠ g5 ∧ g ≠ g6 ∧ g2 ≠ g5 ∧ g2 ≠ g6 := by
      have h1 := blk_lt K.out
      have h2 := blk_lt L.out
      omega
    have NE := Aside0.mk hne
    have NG := Aside0.mk hge
    have K_ := Aside0.mk (blk_below K.out U.out)
    have L_ := Aside0.mk (blk_below L.out U.out)
    rw [← hW2, ← hg6, ← hg5]
    clear L0 A0 A1 C K L B U hW2 hg5 hg6 hne hge
    have K := K_
    have L := L_
    have B := B_
    clear K_ L_ B_
    have z1 := (blk_cell X.out 8).trans rfl
    have z2 := (blk_cell Xz.out 8).trans rfl
    have y1 := blk_frozen X.out 8
    have y2 := blk_frozen Xz.out 8
    have z3 : (W2.setCell ⟨g5, 8, none⟩ (.slice none 0 0)).cell? ⟨g6, 8, none⟩ = some (.slice pz 0 p0z) := (blk_cell (blk_far Xz.out (p := ⟨g5, 8, none⟩) (fun h => NE.out h.symm) _) 8).trans rfl
    have y3 : (W2.setCell ⟨g5, 8, none⟩ (.slice none 0 0)).frozen? ⟨g6, 8, none⟩ = false := blk_frozen (blk_far Xz.out (p := ⟨g5, 8, none⟩) (fun h => NE.out h.symm) _) 8
    go_upto_region 3 with (fail)
    obtain ⟨W3, hW3⟩ : ∃ x, x = (W2.setCell ⟨g5, 8, none⟩ (.slice none 0 0)).setCell ⟨g6, 8, none⟩ (.slice none 0 0) := ⟨_, rfl⟩
    have X_ := Aside0.mk (show W3.heap[g5]? = some (.cells (zv k t o s b c r q none 0 0) 33 (0, 0)) by rw [hW3]; exact blk_far (blk_put (cs' := (zv k t o s b c r q none 0 0)) X.out 8 _ rfl) NE.out _)
    have Y_ := Aside0.mk (show W3.heap[g6]? = some (.cells (zv k t o s b c r q none 0 0) 33 (0, 0)) by rw [hW3]; exact blk_put (cs' := (zv k t o s b c r q none 0 0)) (blk_far Xz.out (p := ⟨g5, 8, none⟩) (fun h => NE.out h.symm) _) 8 _ rfl)
    have K_ := Aside0.mk (show W3.heap[g]? = some (.cells (zv k t o s b c r q p 0 p0) 33 (0, 0)) by rw [hW3]; exact blk_far (blk_far K.out (p := ⟨g5, 8, none⟩) NG.out.1 _) (p := ⟨g6, 8, none⟩) NG.out.2.1 _)
    have L_ := Aside0.mk (show W3.heap[g2]? = some (.cells (zv k t o s b c r q pz 0 p0z) 33 (0, 0)) by rw [hW3]; exact blk_far (blk_far L.out (p := ⟨g5, 8, none⟩) NG.out.2.2.1 _) (p := ⟨g6, 8, none⟩) NG.out.2.2.2 _)
    have B_ := Aside0.mk (show Below w.heap.size w W3 by rw [hW3]; exact below_set (below_set B.out G5.out) G6.out)
    rw [← hW3]
    clear X Xz K L B hW3 z1 z2 z3 y1 y2 y3 NE NG
    have B := B_
    obtain ⟨e0, e1, e2, e3, e4, e5, e6, e7, e8⟩ := val_cells X_.out
    obtain ⟨f0, f1, f2, f3, f4, f5, f6, f7, f8⟩ := val_cells Y_.out
    have m1 := (blk_cell K_.out 8).trans rfl
    have m2 := (blk_cell L_.out 8).trans rfl
    clear B_
    go_wp2_with (first
      | (go_at_call 29; (with_reducible refine (EC.out _ _).mono ?_); rintro _ w1 ⟨rfl, hb1⟩; have B_ := Aside0.mk (below_step (bl B.out) hb1); clear B hb1; have B := B_; clear B_))
    go_ret
    exact ⟨rfl, bl B.out⟩
  · obtain ⟨g5, hg5⟩ : ∃ x, x = W.heap.size + 1 := ⟨_, rfl⟩
    obtain ⟨g6, hg6⟩ : ∃ x, x = W.heap.size := ⟨_, rfl⟩
    obtain ⟨W2, hW2⟩ : ∃ x, x = ((W.alloc (.cells (zv k t o s b c r q pz 0 p0z) 33)).alloc (.cells (zv k t o s b c r q p 0 p0) 33)).drew := ⟨_, rfl⟩
    have Xz := Aside0.mk (show W2.heap[g6]? = some (.cells (zv k t o s b c r q pz 0 p0z) 33 (0, 0)) by rw [hW2, hg6]; exact blk_drew (blk_alloc (blk_new W _) _))
    have X := Aside0.mk (show W2.heap[g5]? = some (.cells (zv k t o s b c r q p 0 p0) 33 (0, 0)) by rw [hW2, hg5]; have h := blk_new (W.alloc (.cells (zv k t o s b c r q pz 0 p0z) 33)) (.cells (zv k t o s b c r q p 0 p0) 33); rw [World.size_alloc] at h; exact blk_drew h)
    have U := Aside0.mk (show Below W.heap.size W W2 by rw [hW2]; exact climb)
    have B_ := Aside0.mk (below_step B.out U.out)
    have G5 := Aside0.mk (show w.heap.size ≤ g5 by have := B.out.size; omega)
    have G6 := Aside0.mk (show w.heap.size ≤ g6 by have := B.out.size; omega)
    have hne : g5 ≠ g6 := by omega
    have hge : g ≠ g5 ∧ g ≠ g6 ∧ g2 ≠ g5 ∧ g2 ≠ g6 := by
      have h1 := blk_lt K.out
      have h2 := blk_lt L.out
      omega
    have NE := Aside0.mk hne
    have NG := Aside0.mk hge
    have K_ := Aside0.mk (blk_below K.out U.out)
    have L_ := Aside0.mk (blk_below L.out U.out)
    rw [← hW2, ← hg5, ← hg6]
    clear L0 A0 A1 C K L B U hW2 hg5 hg6 hne hge
    have K := K_
    have L := L_
    have B := B_
    clear K_ L_ B_
    have z1 := (blk_cell X.out 8).trans rfl
    have z2 := (blk_cell Xz.out 8).trans rfl
    have y1 := blk_frozen X.out 8
    have y2 := blk_frozen Xz.out 8
    have z3 : (W2.setCell ⟨g5, 8, none⟩ (.slice none 0 0)).cell? ⟨g6, 8, none⟩ = some (.slice pz 0 p0z) := (blk_cell (blk_far Xz.out (p := ⟨g5, 8, none⟩) (fun h => NE.out h.symm) _) 8).trans rfl
    have y3 : (W2.setCell ⟨g5, 8, none⟩ (.slice none 0 0)).frozen? ⟨g6, 8, none⟩ = false := blk_frozen (blk_far Xz.out (p := ⟨g5, 8, none⟩) (fun h => NE.out h.symm) _) 8
    go_upto_region 3 with (fail)
    obtain ⟨W3, hW3⟩ : ∃ x, x = (W2.setCell ⟨g5, 8, none⟩ (.slice none 0 0)).setCell ⟨g6, 8, none⟩ (.slice none 0 0) := ⟨_, rfl⟩
    have X_ := Aside0.mk (show W3.heap[g5]? = some (.cells (zv k t o s b c r q none 0 0) 33 (0, 0)) by rw [hW3]; exact blk_far (blk_put (cs' := (zv k t o s b c r q none 0 0)) X.out 8 _ rfl) NE.out _)
    have Y_ := Aside0.mk (show W3.heap[g6]? = some (.cells (zv k t o s b c r q none 0 0) 33 (0, 0)) by rw [hW3]; exact blk_put (cs' := (zv k t o s b c r q none 0 0)) (blk_far Xz.out (p := ⟨g5, 8, none⟩) (fun h => NE.out h.symm) _) 8 _ rfl)
    have K_ := Aside0.mk (show W3.heap[g]? = some (.cells (zv k t o s b c r q p 0 p0) 33 (0, 0)) by rw [hW3]; exact blk_far (blk_far K.out (p := ⟨g5, 8, none⟩) NG.out.1 _) (p := ⟨g6, 8, none⟩) NG.out.2.1 _)
    have L_ := Aside0.mk (show W3.heap[g2]? = some (.cells (zv k t o s b c r q pz 0 p0z) 33 (0, 0)) by rw [hW3]; exact blk_far (blk_far L.out (p := ⟨g5, 8, none⟩) NG.out.2.2.1 _) (p := ⟨g6, 8, none⟩) NG.out.2.2.2 _)
    have B_ := Aside0.mk (show Below w.heap.size w W3 by rw [hW3]; exact below_set (below_set B.out G5.out) G6.out)
    rw [← hW3]
    clear X Xz K L B hW3 z1 z2 z3 y1 y2 y3 NE NG
    have B := B_
    obtain ⟨e0, e1, e2, e3, e4, e5, e6, e7, e8⟩ := val_cells X_.out
    obtain ⟨f0, f1, f2, f3, f4, f5, f6, f7, f8⟩ := val_cells Y_.out
    have m1 := (blk_cell K_.out 8).trans rfl
    have m2 := (blk_cell L_.out 8).trans rfl
    clear B_
    go_wp2_with (first
      | (go_at_call 29; (with_reducible refine (EC.out _ _).mono ?_); rintro _ w1 ⟨rfl, hb1⟩; have B_ := Aside0.mk (below_step (bl B.out) hb1); clear B hb1; have B := B_; clear B_))
    go_ret
    exact ⟨rfl, bl B.out⟩
end Go.Proofs.YtckfdhnimmaeiaaGreatDoor.Pr
