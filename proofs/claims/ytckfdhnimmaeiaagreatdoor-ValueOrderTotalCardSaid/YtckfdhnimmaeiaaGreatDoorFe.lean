/- value.rank, compared, both, Order (printed by wip/tools/mkorder.py). -/
import Derived.Test.YtckfdhnimmaeiaaGreatDoorFd
import Derived.Test.YtckfdhnimmaeiaaGreatDoorComp
import Derived.Deep.RegionHeld3
namespace Go.Proofs.YtckfdhnimmaeiaaGreatDoor.Pr
open Go.RowKit Go.Proofs.YtckfdhnimmaeiaaGreatDoorW.PrintWords Go.Proofs.YtckfdhnimmaeiaaGreatDoorW.PrintLast Go.Proofs.YtckfdhnimmaeiaaGreatDoorW.PrintMore
set_option linter.unusedVariables false
set_option linter.unusedSimpArgs false
def rankF (k : Int) : Int := if k = 1 then 0 else if k = 2 then 1 else if k = 3 then 2 else if k = 4 then 3 else 4
set_option maxHeartbeats 8000000 in
set_option maxRecDepth 100000 in
theorem rank_0 (t o s : ByteArray) (b : Bool) (c r q : Int) (p : Option Addr) (n p0 : Nat) (w : World) :
    Calls Tryz.prog 25 #[.agg #[.int .i64 0, .string t, .string o, .string s, .bool b, .int .i64 c, .int .i64 r, .int .i64 q, .slice p n p0]] w fun x w' => x = .returned (.int .i64 4) ∧ Below w.heap.size w w' := by
  go_enter Tryz.func25, Tryz.ntmps25
  go_upto_region 1 with (fail)
  obtain ⟨g, hg⟩ : ∃ g, g = w.heap.size := ⟨_, rfl⟩
  have K := Aside0.mk (show (w.alloc (.cells #[.int .i64 0, .string t, .string o, .string s, .bool b, .int .i64 c, .int .i64 r, .int .i64 q, .slice p n p0] 33)).heap[g]? = some (.cells #[.int .i64 0, .string t, .string o, .string s, .bool b, .int .i64 c, .int .i64 r, .int .i64 q, .slice p n p0] 33 (0, 0)) from hg ▸ blk_new w _)
  have B := Aside0.mk (show Below w.heap.size w (w.alloc (.cells #[.int .i64 0, .string t, .string o, .string s, .bool b, .int .i64 c, .int .i64 r, .int .i64 q, .slice p n p0] 33)) from climb)
  obtain ⟨W, hW⟩ : ∃ W, W = w.alloc (.cells #[.int .i64 0, .string t, .string o, .string s, .bool b, .int .i64 c, .int .i64 r, .int .i64 q, .slice p n p0] 33) := ⟨_, rfl⟩
  rw [← hW] at K B ⊢
  rw [← hg]
  clear hW hg
  obtain ⟨c0, c1, c2, c3, c4, c5, c6, c7, c8⟩ := val_cells K.out
  go_wp2
  go_ret
  exact ⟨rfl, bl B.out⟩
set_option maxHeartbeats 8000000 in
set_option maxRecDepth 100000 in
theorem rank_1 (t o s : ByteArray) (b : Bool) (c r q : Int) (p : Option Addr) (n p0 : Nat) (w : World) :
    Calls Tryz.prog 25 #[.agg #[.int .i64 1, .string t, .string o, .string s, .bool b, .int .i64 c, .int .i64 r, .int .i64 q, .slice p n p0]] w fun x w' => x = .returned (.int .i64 0) ∧ Below w.heap.size w w' := by
  go_enter Tryz.func25, Tryz.ntmps25
  go_upto_region 1 with (fail)
  obtain ⟨g, hg⟩ : ∃ g, g = w.heap.size := ⟨_, rfl⟩
  have K := Aside0.mk (show (w.alloc (.cells #[.int .i64 1, .string t, .string o, .string s, .bool b, .int .i64 c, .int .i64 r, .int .i64 q, .slice p n p0] 33)).heap[g]? = some (.cells #[.int .i64 1, .string t, .string o, .string s, .bool b, .int .i64 c, .int .i64 r, .int .i64 q, .slice p n p0] 33 (0, 0)) from hg ▸ blk_new w _)
  have B := Aside0.mk (show Below w.heap.size w (w.alloc (.cells #[.int .i64 1, .string t, .string o, .string s, .bool b, .int .i64 c, .int .i64 r, .int .i64 q, .slice p n p0] 33)) from climb)
  obtain ⟨W, hW⟩ : ∃ W, W = w.alloc (.cells #[.int .i64 1, .string t, .string o, .string s, .bool b, .int .i64 c, .int .i64 r, .int .i64 q, .slice p n p0] 33) := ⟨_, rfl⟩
  rw [← hW] at K B ⊢
  rw [← hg]
  clear hW hg
  obtain ⟨c0, c1, c2, c3, c4, c5, c6, c7, c8⟩ := val_cells K.out
  go_wp2
  go_ret
  exact ⟨rfl, bl B.out⟩
set_option maxHeartbeats 8000000 in
set_option maxRecDepth 100000 in
theorem rank_2 (t o s : ByteArray) (b : Bool) (c r q : Int) (p : Option Addr) (n p0 : Nat) (w : World) :
    Calls Tryz.prog 25 #[.agg #[.int .i64 2, .string t, .string o, .string s, .bool b, .int .i64 c, .int .i64 r, .int .i64 q, .slice p n p0]] w fun x w' => x = .returned (.int .i64 1) ∧ Below w.heap.size w w' := by
  go_enter Tryz.func25, Tryz.ntmps25
  go_upto_region 1 with (fail)
  obtain ⟨g, hg⟩ : ∃ g, g = w.heap.size := ⟨_, rfl⟩
  have K := Aside0.mk (show (w.alloc (.cells #[.int .i64 2, .string t, .string o, .string s, .bool b, .int .i64 c, .int .i64 r, .int .i64 q, .slice p n p0] 33)).heap[g]? = some (.cells #[.int .i64 2, .string t, .string o, .string s, .bool b, .int .i64 c, .int .i64 r, .int .i64 q, .slice p n p0] 33 (0, 0)) from hg ▸ blk_new w _)
  have B := Aside0.mk (show Below w.heap.size w (w.alloc (.cells #[.int .i64 2, .string t, .string o, .string s, .bool b, .int .i64 c, .int .i64 r, .int .i64 q, .slice p n p0] 33)) from climb)
  obtain ⟨W, hW⟩ : ∃ W, W = w.alloc (.cells #[.int .i64 2, .string t, .string o, .string s, .bool b, .int .i64 c, .int .i64 r, .int .i64 q, .slice p n p0] 33) := ⟨_, rfl⟩
  rw [← hW] at K B ⊢
  rw [← hg]
  clear hW hg
  obtain ⟨c0, c1, c2, c3, c4, c5, c6, c7, c8⟩ := val_cells K.out
  go_wp2
  go_ret
  exact ⟨rfl, bl B.out⟩
set_option maxHeartbeats 8000000 in
set_option maxRecDepth 100000 in
theorem rank_3 (t o s : ByteArray) (b : Bool) (c r q : Int) (p : Option Addr) (n p0 : Nat) (w : World) :
    Calls Tryz.prog 25 #[.agg #[.int .i64 3, .string t, .string o, .string s, .bool b, .int .i64 c, .int .i64 r, .int .i64 q, .slice p n p0]] w fun x w' => x = .returned (.int .i64 2) ∧ Below w.heap.size w w' := by
  go_enter Tryz.func25, Tryz.ntmps25
  go_upto_region 1 with (fail)
  obtain ⟨g, hg⟩ : ∃ g, g = w.heap.size := ⟨_, rfl⟩
  have K := Aside0.mk (show (w.alloc (.cells #[.int .i64 3, .string t, .string o, .string s, .bool b, .int .i64 c, .int .i64 r, .int .i64 q, .slice p n p0] 33)).heap[g]? = some (.cells #[.int .i64 3, .string t, .string o, .string s, .bool b, .int .i64 c, .int .i64 r, .int .i64 q, .slice p n p0] 33 (0, 0)) from hg ▸ blk_new w _)
  have B := Aside0.mk (show Below w.heap.size w (w.alloc (.cells #[.int .i64 3, .string t, .string o, .string s, .bool b, .int .i64 c, .int .i64 r, .int .i64 q, .slice p n p0] 33)) from climb)
  obtain ⟨W, hW⟩ : ∃ W, W = w.alloc (.cells #[.int .i64 3, .string t, .string o, .string s, .bool b, .int .i64 c, .int .i64 r, .int .i64 q, .slice p n p0] 33) := ⟨_, rfl⟩
  rw [← hW] at K B ⊢
  rw [← hg]
  clear hW hg
  obtain ⟨c0, c1, c2, c3, c4, c5, c6, c7, c8⟩ := val_cells K.out
  go_wp2
  go_ret
  exact ⟨rfl, bl B.out⟩
set_option maxHeartbeats 8000000 in
set_option maxRecDepth 100000 in
theorem rank_4 (t o s : ByteArray) (b : Bool) (c r q : Int) (p : Option Addr) (n p0 : Nat) (w : World) :
    Calls Tryz.prog 25 #[.agg #[.int .i64 4, .string t, .string o, .string s, .bool b, .int .i64 c, .int .i64 r, .int .i64 q, .slice p n p0]] w fun x w' => x = .returned (.int .i64 3) ∧ Below w.heap.size w w' := by
  go_enter Tryz.func25, Tryz.ntmps25
  go_upto_region 1 with (fail)
  obtain ⟨g, hg⟩ : ∃ g, g = w.heap.size := ⟨_, rfl⟩
  have K := Aside0.mk (show (w.alloc (.cells #[.int .i64 4, .string t, .string o, .string s, .bool b, .int .i64 c, .int .i64 r, .int .i64 q, .slice p n p0] 33)).heap[g]? = some (.cells #[.int .i64 4, .string t, .string o, .string s, .bool b, .int .i64 c, .int .i64 r, .int .i64 q, .slice p n p0] 33 (0, 0)) from hg ▸ blk_new w _)
  have B := Aside0.mk (show Below w.heap.size w (w.alloc (.cells #[.int .i64 4, .string t, .string o, .string s, .bool b, .int .i64 c, .int .i64 r, .int .i64 q, .slice p n p0] 33)) from climb)
  obtain ⟨W, hW⟩ : ∃ W, W = w.alloc (.cells #[.int .i64 4, .string t, .string o, .string s, .bool b, .int .i64 c, .int .i64 r, .int .i64 q, .slice p n p0] 33) := ⟨_, rfl⟩
  rw [← hW] at K B ⊢
  rw [← hg]
  clear hW hg
  obtain ⟨c0, c1, c2, c3, c4, c5, c6, c7, c8⟩ := val_cells K.out
  go_wp2
  go_ret
  exact ⟨rfl, bl B.out⟩
theorem rank_calls (k : Int) (t o s : ByteArray) (b : Bool) (c r q : Int) (p : Option Addr) (n p0 : Nat) (h0 : 0 ≤ k) (h4 : k ≤ 4) (w : World) :
    Calls Tryz.prog 25 #[.agg #[.int .i64 k, .string t, .string o, .string s, .bool b, .int .i64 c, .int .i64 r, .int .i64 q, .slice p n p0]] w fun x w' => x = .returned (.int .i64 (rankF k)) ∧ Below w.heap.size w w' := by
  have : k = 0 ∨ k = 1 ∨ k = 2 ∨ k = 3 ∨ k = 4 := by omega
  rcases this with rfl | rfl | rfl | rfl | rfl
  · exact rank_0 t o s b c r q p n p0 w
  · exact rank_1 t o s b c r q p n p0 w
  · exact rank_2 t o s b c r q p n p0 w
  · exact rank_3 t o s b c r q p n p0 w
  · exact rank_4 t o s b c r q p n p0 w
set_option maxHeartbeats 8000000 in
set_option maxRecDepth 100000 in
theorem compared_1 (t o s : ByteArray) (b : Bool) (c r q : Int) (p : Option Addr) (n p0 : Nat) (tz oz sz : ByteArray) (bz : Bool) (cz rz qz : Int) (pz : Option Addr) (nz p0z : Nat) (m : Nat) (e x : Int) (hC : exact_Compare.f m t o tz oz = some (e, x)) (w : World) (hG : Gl w) :
    Calls Tryz.prog 27 #[.agg #[.int .i64 1, .string t, .string o, .string s, .bool b, .int .i64 c, .int .i64 r, .int .i64 q, .slice p n p0], .agg #[.int .i64 1, .string tz, .string oz, .string sz, .bool bz, .int .i64 cz, .int .i64 rz, .int .i64 qz, .slice pz nz p0z]] w fun x w' => x = .returned (.int .i64 e) ∧ Below w.heap.size w w' := by
  have CC := Aside0.mk (fun w hGl => exact_Compare.calls m t o tz oz e x w hGl hC)
  have HG := Aside0.mk hG
  clear hC hG
  go_enter Tryz.func27, Tryz.ntmps27
  go_upto_region 1 with (fail)
  obtain ⟨g, hg⟩ : ∃ g, g = w.heap.size := ⟨_, rfl⟩
  obtain ⟨g2, hg2⟩ : ∃ g2, g2 = w.heap.size + 1 := ⟨_, rfl⟩
  have K := Aside0.mk (show ((w.alloc (.cells #[.int .i64 1, .string t, .string o, .string s, .bool b, .int .i64 c, .int .i64 r, .int .i64 q, .slice p n p0] 33)).alloc (.cells #[.int .i64 1, .string tz, .string oz, .string sz, .bool bz, .int .i64 cz, .int .i64 rz, .int .i64 qz, .slice pz nz p0z] 33)).heap[g]? = some (.cells #[.int .i64 1, .string t, .string o, .string s, .bool b, .int .i64 c, .int .i64 r, .int .i64 q, .slice p n p0] 33 (0, 0)) from hg ▸ blk_alloc (blk_new w _) _)
  have L := Aside0.mk (show ((w.alloc (.cells #[.int .i64 1, .string t, .string o, .string s, .bool b, .int .i64 c, .int .i64 r, .int .i64 q, .slice p n p0] 33)).alloc (.cells #[.int .i64 1, .string tz, .string oz, .string sz, .bool bz, .int .i64 cz, .int .i64 rz, .int .i64 qz, .slice pz nz p0z] 33)).heap[g2]? = some (.cells #[.int .i64 1, .string tz, .string oz, .string sz, .bool bz, .int .i64 cz, .int .i64 rz, .int .i64 qz, .slice pz nz p0z] 33 (0, 0)) by have h := blk_new (w.alloc (.cells #[.int .i64 1, .string t, .string o, .string s, .bool b, .int .i64 c, .int .i64 r, .int .i64 q, .slice p n p0] 33)) (.cells #[.int .i64 1, .string tz, .string oz, .string sz, .bool bz, .int .i64 cz, .int .i64 rz, .int .i64 qz, .slice pz nz p0z] 33); rw [World.size_alloc, ← hg2] at h; exact h)
  have B := Aside0.mk (show Below w.heap.size w ((w.alloc (.cells #[.int .i64 1, .string t, .string o, .string s, .bool b, .int .i64 c, .int .i64 r, .int .i64 q, .slice p n p0] 33)).alloc (.cells #[.int .i64 1, .string tz, .string oz, .string sz, .bool bz, .int .i64 cz, .int .i64 rz, .int .i64 qz, .slice pz nz p0z] 33)) from climb)
  obtain ⟨W, hW⟩ : ∃ W, W = ((w.alloc (.cells #[.int .i64 1, .string t, .string o, .string s, .bool b, .int .i64 c, .int .i64 r, .int .i64 q, .slice p n p0] 33)).alloc (.cells #[.int .i64 1, .string tz, .string oz, .string sz, .bool bz, .int .i64 cz, .int .i64 rz, .int .i64 qz, .slice pz nz p0z] 33)) := ⟨_, rfl⟩
  rw [← hW] at K L B ⊢
  rw [← hg2, ← hg]
  clear hW hg hg2
  obtain ⟨c0, c1, c2, c3, c4, c5, c6, c7, c8⟩ := val_cells K.out
  obtain ⟨d0, d1, d2, d3, d4, d5, d6, d7, d8⟩ := val_cells L.out
  go_wp2_with (first | (go_at_call 53; (with_reducible refine (CC.out _ (gl_below HG.out (bl B.out))).mono ?_); rintro _ w1 ⟨rfl, hb1⟩; have B_ := Aside0.mk (below_step (bl B.out) hb1); have K_ := Aside0.mk (blk_below (blk_below K.out climb) hb1); have L_ := Aside0.mk (blk_below (blk_below L.out climb) hb1); clear B K L hb1; have B := B_; have K := K_; have L := L_; clear B_ K_ L_))
  go_ret
  exact ⟨rfl, bl B.out⟩
set_option maxHeartbeats 8000000 in
set_option maxRecDepth 100000 in
theorem compared_4 (t o s : ByteArray) (b : Bool) (c r q : Int) (p : Option Addr) (n p0 : Nat) (tz oz sz : ByteArray) (bz : Bool) (cz rz qz : Int) (pz : Option Addr) (nz p0z : Nat) (w : World) :
    Calls Tryz.prog 27 #[.agg #[.int .i64 4, .string t, .string o, .string s, .bool b, .int .i64 c, .int .i64 r, .int .i64 q, .slice p n p0], .agg #[.int .i64 4, .string tz, .string oz, .string sz, .bool bz, .int .i64 cz, .int .i64 rz, .int .i64 qz, .slice pz nz p0z]] w fun x w' => x = .returned (.int .i64 (cmpI c cz)) ∧ Below w.heap.size w w' := by
  have CC := Aside0.mk (fun w => cmpI_calls c cz w)
  go_enter Tryz.func27, Tryz.ntmps27
  go_upto_region 1 with (fail)
  obtain ⟨g, hg⟩ : ∃ g, g = w.heap.size := ⟨_, rfl⟩
  obtain ⟨g2, hg2⟩ : ∃ g2, g2 = w.heap.size + 1 := ⟨_, rfl⟩
  have K := Aside0.mk (show ((w.alloc (.cells #[.int .i64 4, .string t, .string o, .string s, .bool b, .int .i64 c, .int .i64 r, .int .i64 q, .slice p n p0] 33)).alloc (.cells #[.int .i64 4, .string tz, .string oz, .string sz, .bool bz, .int .i64 cz, .int .i64 rz, .int .i64 qz, .slice pz nz p0z] 33)).heap[g]? = some (.cells #[.int .i64 4, .string t, .string o, .string s, .bool b, .int .i64 c, .int .i64 r, .int .i64 q, .slice p n p0] 33 (0, 0)) from hg ▸ blk_alloc (blk_new w _) _)
  have L := Aside0.mk (show ((w.alloc (.cells #[.int .i64 4, .string t, .string o, .string s, .bool b, .int .i64 c, .int .i64 r, .int .i64 q, .slice p n p0] 33)).alloc (.cells #[.int .i64 4, .string tz, .string oz, .string sz, .bool bz, .int .i64 cz, .int .i64 rz, .int .i64 qz, .slice pz nz p0z] 33)).heap[g2]? = some (.cells #[.int .i64 4, .string tz, .string oz, .string sz, .bool bz, .int .i64 cz, .int .i64 rz, .int .i64 qz, .slice pz nz p0z] 33 (0, 0)) by have h := blk_new (w.alloc (.cells #[.int .i64 4, .string t, .string o, .string s, .bool b, .int .i64 c, .int .i64 r, .int .i64 q, .slice p n p0] 33)) (.cells #[.int .i64 4, .string tz, .string oz, .string sz, .bool bz, .int .i64 cz, .int .i64 rz, .int .i64 qz, .slice pz nz p0z] 33); rw [World.size_alloc, ← hg2] at h; exact h)
  have B := Aside0.mk (show Below w.heap.size w ((w.alloc (.cells #[.int .i64 4, .string t, .string o, .string s, .bool b, .int .i64 c, .int .i64 r, .int .i64 q, .slice p n p0] 33)).alloc (.cells #[.int .i64 4, .string tz, .string oz, .string sz, .bool bz, .int .i64 cz, .int .i64 rz, .int .i64 qz, .slice pz nz p0z] 33)) from climb)
  obtain ⟨W, hW⟩ : ∃ W, W = ((w.alloc (.cells #[.int .i64 4, .string t, .string o, .string s, .bool b, .int .i64 c, .int .i64 r, .int .i64 q, .slice p n p0] 33)).alloc (.cells #[.int .i64 4, .string tz, .string oz, .string sz, .bool bz, .int .i64 cz, .int .i64 rz, .int .i64 qz, .slice pz nz p0z] 33)) := ⟨_, rfl⟩
  rw [← hW] at K L B ⊢
  rw [← hg2, ← hg]
  clear hW hg hg2
  obtain ⟨c0, c1, c2, c3, c4, c5, c6, c7, c8⟩ := val_cells K.out
  obtain ⟨d0, d1, d2, d3, d4, d5, d6, d7, d8⟩ := val_cells L.out
  go_wp2_with (first | (go_at_call 24; (with_reducible refine (CC.out _).mono ?_); rintro _ w1 ⟨rfl, hb1⟩; have B_ := Aside0.mk (below_step (bl B.out) hb1); have K_ := Aside0.mk (blk_below (blk_below K.out climb) hb1); have L_ := Aside0.mk (blk_below (blk_below L.out climb) hb1); clear B K L hb1; have B := B_; have K := K_; have L := L_; clear B_ K_ L_))
  go_ret
  exact ⟨rfl, bl B.out⟩
set_option maxHeartbeats 8000000 in
set_option maxRecDepth 100000 in
theorem compared_2 (t o s : ByteArray) (b : Bool) (c r q : Int) (p : Option Addr) (n p0 : Nat) (tz oz sz : ByteArray) (bz : Bool) (cz rz qz : Int) (pz : Option Addr) (nz p0z : Nat) (h1 : s.size ≤ 32767) (h2 : sz.size ≤ 32767) (w : World) :
    Calls Tryz.prog 27 #[.agg #[.int .i64 2, .string t, .string o, .string s, .bool b, .int .i64 c, .int .i64 r, .int .i64 q, .slice p n p0], .agg #[.int .i64 2, .string tz, .string oz, .string sz, .bool bz, .int .i64 cz, .int .i64 rz, .int .i64 qz, .slice pz nz p0z]] w fun x w' => x = .returned (.int .i64 (cmpS (lowF s) (lowF sz))) ∧ Below w.heap.size w w' := by
  have CC := Aside0.mk (fun w => cmpS_calls (lowF s) (lowF sz) w)
  have L1 := Aside0.mk (fun w => lower_calls s w (by omega))
  have L2 := Aside0.mk (fun w => lower_calls sz w (by omega))
  clear h1 h2
  generalize lowF s = x1 at CC L1 ⊢
  generalize lowF sz = x2 at CC L2 ⊢
  generalize cmpS x1 x2 = e at CC ⊢
  go_enter Tryz.func27, Tryz.ntmps27
  go_upto_region 1 with (fail)
  obtain ⟨g, hg⟩ : ∃ g, g = w.heap.size := ⟨_, rfl⟩
  obtain ⟨g2, hg2⟩ : ∃ g2, g2 = w.heap.size + 1 := ⟨_, rfl⟩
  have K := Aside0.mk (show ((w.alloc (.cells #[.int .i64 2, .string t, .string o, .string s, .bool b, .int .i64 c, .int .i64 r, .int .i64 q, .slice p n p0] 33)).alloc (.cells #[.int .i64 2, .string tz, .string oz, .string sz, .bool bz, .int .i64 cz, .int .i64 rz, .int .i64 qz, .slice pz nz p0z] 33)).heap[g]? = some (.cells #[.int .i64 2, .string t, .string o, .string s, .bool b, .int .i64 c, .int .i64 r, .int .i64 q, .slice p n p0] 33 (0, 0)) from hg ▸ blk_alloc (blk_new w _) _)
  have L := Aside0.mk (show ((w.alloc (.cells #[.int .i64 2, .string t, .string o, .string s, .bool b, .int .i64 c, .int .i64 r, .int .i64 q, .slice p n p0] 33)).alloc (.cells #[.int .i64 2, .string tz, .string oz, .string sz, .bool bz, .int .i64 cz, .int .i64 rz, .int .i64 qz, .slice pz nz p0z] 33)).heap[g2]? = some (.cells #[.int .i64 2, .string tz, .string oz, .string sz, .bool bz, .int .i64 cz, .int .i64 rz, .int .i64 qz, .slice pz nz p0z] 33 (0, 0)) by have h := blk_new (w.alloc (.cells #[.int .i64 2, .string t, .string o, .string s, .bool b, .int .i64 c, .int .i64 r, .int .i64 q, .slice p n p0] 33)) (.cells #[.int .i64 2, .string tz, .string oz, .string sz, .bool bz, .int .i64 cz, .int .i64 rz, .int .i64 qz, .slice pz nz p0z] 33); rw [World.size_alloc, ← hg2] at h; exact h)
  have B := Aside0.mk (show Below w.heap.size w ((w.alloc (.cells #[.int .i64 2, .string t, .string o, .string s, .bool b, .int .i64 c, .int .i64 r, .int .i64 q, .slice p n p0] 33)).alloc (.cells #[.int .i64 2, .string tz, .string oz, .string sz, .bool bz, .int .i64 cz, .int .i64 rz, .int .i64 qz, .slice pz nz p0z] 33)) from climb)
  obtain ⟨W, hW⟩ : ∃ W, W = ((w.alloc (.cells #[.int .i64 2, .string t, .string o, .string s, .bool b, .int .i64 c, .int .i64 r, .int .i64 q, .slice p n p0] 33)).alloc (.cells #[.int .i64 2, .string tz, .string oz, .string sz, .bool bz, .int .i64 cz, .int .i64 rz, .int .i64 qz, .slice pz nz p0z] 33)) := ⟨_, rfl⟩
  rw [← hW] at K L B ⊢
  rw [← hg2, ← hg]
  clear hW hg hg2
  obtain ⟨c0, c1, c2, c3, c4, c5, c6, c7, c8⟩ := val_cells K.out
  obtain ⟨d0, d1, d2, d3, d4, d5, d6, d7, d8⟩ := val_cells L.out
  go_upto_region 6 with (fail)
  have C := Aside0.mk (Below.refl W.heap.size W)
  have L0 := Aside0.mk (fun w' (h : Below W.heap.size W w') => (show w'.cell? ⟨g, 3, none⟩ = some (.string s) ∧ w'.cell? ⟨g2, 3, none⟩ = some (.string sz) from ⟨(val_cells (blk_below K.out h)).2.2.2.1, (val_cells (blk_below L.out h)).2.2.2.1⟩))
  go_region_held3 (fun w' => w'.cell? ⟨g, 3, none⟩ = some (.string s) ∧ w'.cell? ⟨g2, 3, none⟩ = some (.string sz)) (first | exact L0.out _ C.out | exact L0.out _ (bl C.out) | exact L0.out _ climb) (first | (go_at_call_of 42 s; (with_reducible refine (L1.out _).mono ?_); rintro _ w1 ⟨rfl, hb1⟩; have C_ := Aside0.mk (below_step (bl C.out) hb1); clear C hb1; have C := C_; clear C_) | (go_at_call_of 42 sz; (with_reducible refine (L2.out _).mono ?_); rintro _ w1 ⟨rfl, hb1⟩; have C_ := Aside0.mk (below_step (bl C.out) hb1); clear C hb1; have C := C_; clear C_) | (go_at_call 28; (with_reducible refine (CC.out _).mono ?_); rintro _ w1 ⟨rfl, hb1⟩; have C_ := Aside0.mk (below_step (bl C.out) hb1); clear C hb1; have C := C_; clear C_))
  all_goals
    try go_wp2
    go_ret
    exact ⟨rfl, below_step (bl B.out) (bl C.out)⟩
def flagF (b : Bool) : Int := if b = true then 1 else 0
set_option maxHeartbeats 8000000 in
set_option maxRecDepth 100000 in
theorem compared_3 (t o s : ByteArray) (b : Bool) (c r q : Int) (p : Option Addr) (n p0 : Nat) (tz oz sz : ByteArray) (bz : Bool) (cz rz qz : Int) (pz : Option Addr) (nz p0z : Nat) (w : World) :
    Calls Tryz.prog 27 #[.agg #[.int .i64 3, .string t, .string o, .string s, .bool b, .int .i64 c, .int .i64 r, .int .i64 q, .slice p n p0], .agg #[.int .i64 3, .string tz, .string oz, .string sz, .bool bz, .int .i64 cz, .int .i64 rz, .int .i64 qz, .slice pz nz p0z]] w fun x w' => x = .returned (.int .i64 (flagF b - flagF bz)) ∧ Below w.heap.size w w' := by
  have L1 := Aside0.mk (fun w => flag_calls b w)
  have L2 := Aside0.mk (fun w => flag_calls bz w)
  obtain ⟨x1, hx1⟩ : ∃ x, x = flagF b := ⟨_, rfl⟩
  obtain ⟨x2, hx2⟩ : ∃ x, x = flagF bz := ⟨_, rfl⟩
  have y1 : 0 ≤ x1 ∧ x1 ≤ 1 := by rw [hx1]; cases b <;> decide
  have y2 : 0 ≤ x2 ∧ x2 ≤ 1 := by rw [hx2]; cases bz <;> decide
  have e1 : IntKind.i64.wrap (x1 - x2) = x1 - x2 := by rw [IntKind.wrap_i64]; omega
  have L1 := Aside0.mk (show ∀ w, Calls Tryz.prog 54 #[.bool b] w fun r w' => r = .returned (.int .i64 x1) ∧ Below w.heap.size w w' by rw [hx1]; exact L1.out)
  have L2 := Aside0.mk (show ∀ w, Calls Tryz.prog 54 #[.bool bz] w fun r w' => r = .returned (.int .i64 x2) ∧ Below w.heap.size w w' by rw [hx2]; exact L2.out)
  rw [← hx1, ← hx2]
  clear hx1 hx2
  go_enter Tryz.func27, Tryz.ntmps27
  go_upto_region 1 with (fail)
  obtain ⟨g, hg⟩ : ∃ g, g = w.heap.size := ⟨_, rfl⟩
  obtain ⟨g2, hg2⟩ : ∃ g2, g2 = w.heap.size + 1 := ⟨_, rfl⟩
  have K := Aside0.mk (show ((w.alloc (.cells #[.int .i64 3, .string t, .string o, .string s, .bool b, .int .i64 c, .int .i64 r, .int .i64 q, .slice p n p0] 33)).alloc (.cells #[.int .i64 3, .string tz, .string oz, .string sz, .bool bz, .int .i64 cz, .int .i64 rz, .int .i64 qz, .slice pz nz p0z] 33)).heap[g]? = some (.cells #[.int .i64 3, .string t, .string o, .string s, .bool b, .int .i64 c, .int .i64 r, .int .i64 q, .slice p n p0] 33 (0, 0)) from hg ▸ blk_alloc (blk_new w _) _)
  have L := Aside0.mk (show ((w.alloc (.cells #[.int .i64 3, .string t, .string o, .string s, .bool b, .int .i64 c, .int .i64 r, .int .i64 q, .slice p n p0] 33)).alloc (.cells #[.int .i64 3, .string tz, .string oz, .string sz, .bool bz, .int .i64 cz, .int .i64 rz, .int .i64 qz, .slice pz nz p0z] 33)).heap[g2]? = some (.cells #[.int .i64 3, .string tz, .string oz, .string sz, .bool bz, .int .i64 cz, .int .i64 rz, .int .i64 qz, .slice pz nz p0z] 33 (0, 0)) by have h := blk_new (w.alloc (.cells #[.int .i64 3, .string t, .string o, .string s, .bool b, .int .i64 c, .int .i64 r, .int .i64 q, .slice p n p0] 33)) (.cells #[.int .i64 3, .string tz, .string oz, .string sz, .bool bz, .int .i64 cz, .int .i64 rz, .int .i64 qz, .slice pz nz p0z] 33); rw [World.size_alloc, ← hg2] at h; exact h)
  have B := Aside0.mk (show Below w.heap.size w ((w.alloc (.cells #[.int .i64 3, .string t, .string o, .string s, .bool b, .int .i64 c, .int .i64 r, .int .i64 q, .slice p n p0] 33)).alloc (.cells #[.int .i64 3, .string tz, .string oz, .string sz, .bool bz, .int .i64 cz, .int .i64 rz, .int .i64 qz, .slice pz nz p0z] 33)) from climb)
  obtain ⟨W, hW⟩ : ∃ W, W = ((w.alloc (.cells #[.int .i64 3, .string t, .string o, .string s, .bool b, .int .i64 c, .int .i64 r, .int .i64 q, .slice p n p0] 33)).alloc (.cells #[.int .i64 3, .string tz, .string oz, .string sz, .bool bz, .int .i64 cz, .int .i64 rz, .int .i64 qz, .slice pz nz p0z] 33)) := ⟨_, rfl⟩
  rw [← hW] at K L B ⊢
  rw [← hg2, ← hg]
  clear hW hg hg2
  obtain ⟨c0, c1, c2, c3, c4, c5, c6, c7, c8⟩ := val_cells K.out
  obtain ⟨d0, d1, d2, d3, d4, d5, d6, d7, d8⟩ := val_cells L.out
  go_upto_region 8 with (fail)
  have C := Aside0.mk (Below.refl W.heap.size W)
  have L0 := Aside0.mk (fun w' (h : Below W.heap.size W w') => (show w'.cell? ⟨g, 4, none⟩ = some (.bool b) ∧ w'.cell? ⟨g2, 4, none⟩ = some (.bool bz) from ⟨(val_cells (blk_below K.out h)).2.2.2.2.1, (val_cells (blk_below L.out h)).2.2.2.2.1⟩))
  go_region_held3 (fun w' => w'.cell? ⟨g, 4, none⟩ = some (.bool b) ∧ w'.cell? ⟨g2, 4, none⟩ = some (.bool bz)) (first | exact L0.out _ C.out | exact L0.out _ (bl C.out) | exact L0.out _ climb) (first | (go_at_call_of 54 b; (with_reducible refine (L1.out _).mono ?_); rintro _ w1 ⟨rfl, hb1⟩; have C_ := Aside0.mk (below_step (bl C.out) hb1); clear C hb1; have C := C_; clear C_) | (go_at_call_of 54 bz; (with_reducible refine (L2.out _).mono ?_); rintro _ w1 ⟨rfl, hb1⟩; have C_ := Aside0.mk (below_step (bl C.out) hb1); clear C hb1; have C := C_; clear C_))
  all_goals
    try go_wp2
    go_ret
    exact ⟨by simp [e1], below_step (bl B.out) (bl C.out)⟩
end Go.Proofs.YtckfdhnimmaeiaaGreatDoor.Pr
