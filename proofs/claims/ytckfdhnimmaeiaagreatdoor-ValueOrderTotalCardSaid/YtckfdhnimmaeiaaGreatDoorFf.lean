/- value.both, Order (printed by wip/tools/mkboth.py). -/
import Derived.Test.YtckfdhnimmaeiaaGreatDoorFe
namespace Go.Proofs.YtckfdhnimmaeiaaGreatDoor.Pr
open Go.RowKit Go.Proofs.YtckfdhnimmaeiaaGreatDoorW.PrintWords Go.Proofs.YtckfdhnimmaeiaaGreatDoorW.PrintLast Go.Proofs.YtckfdhnimmaeiaaGreatDoorW.PrintMore
set_option linter.unusedVariables false
set_option linter.unusedSimpArgs false

theorem ix85_0 (k : Int) (t o s : ByteArray) (b : Bool) (c r q : Int) (p : Option Addr) (n p0 : Nat) (kz : Int) (tz oz sz : ByteArray) (bz : Bool) (cz rz qz : Int) (pz : Option Addr) (nz p0z : Nat) (W : World) : (Instr.index 85 (.agg #[.int .i64 k, .string t, .string o, .string s, .bool b, .int .i64 c, .int .i64 r, .int .i64 q, .slice p n p0, .int .i64 kz, .string tz, .string oz, .string sz, .bool bz, .int .i64 cz, .int .i64 rz, .int .i64 qz, .slice pz nz p0z]) (.int .i64 0)).run Tryz.prog W = .ok (.agg #[.int .i64 k, .string t, .string o, .string s, .bool b, .int .i64 c, .int .i64 r, .int .i64 q, .slice p n p0]) W := by kernel_rfl
theorem ix85_1 (k : Int) (t o s : ByteArray) (b : Bool) (c r q : Int) (p : Option Addr) (n p0 : Nat) (kz : Int) (tz oz sz : ByteArray) (bz : Bool) (cz rz qz : Int) (pz : Option Addr) (nz p0z : Nat) (W : World) : (Instr.index 85 (.agg #[.int .i64 k, .string t, .string o, .string s, .bool b, .int .i64 c, .int .i64 r, .int .i64 q, .slice p n p0, .int .i64 kz, .string tz, .string oz, .string sz, .bool bz, .int .i64 cz, .int .i64 rz, .int .i64 qz, .slice pz nz p0z]) (.int .i64 1)).run Tryz.prog W = .ok (.agg #[.int .i64 kz, .string tz, .string oz, .string sz, .bool bz, .int .i64 cz, .int .i64 rz, .int .i64 qz, .slice pz nz p0z]) W := by kernel_rfl
set_option maxHeartbeats 8000000 in
set_option maxRecDepth 100000 in
theorem both_calls (k : Int) (t o s : ByteArray) (b : Bool) (c r q : Int) (p : Option Addr) (n p0 : Nat) (kz : Int) (tz oz sz : ByteArray) (bz : Bool) (cz rz qz : Int) (pz : Option Addr) (nz p0z : Nat) (h4 : k ≤ 4) (hz4 : kz ≤ 4) (ha : ∀ w, Wd w → Calls Tryz.prog 10 #[.agg #[.int .i64 k, .string t, .string o, .string s, .bool b, .int .i64 c, .int .i64 r, .int .i64 q, .slice p n p0]] w fun x w' => x = .returned (.int .i64 0) ∧ Below w.heap.size w w')
    (hb : ∀ w, Wd w → Calls Tryz.prog 10 #[.agg #[.int .i64 kz, .string tz, .string oz, .string sz, .bool bz, .int .i64 cz, .int .i64 rz, .int .i64 qz, .slice pz nz p0z]] w fun x w' => x = .returned (.int .i64 0) ∧ Below w.heap.size w w') (w : World) (hW : Wd w) :
    Calls Tryz.prog 23 #[.agg #[.int .i64 k, .string t, .string o, .string s, .bool b, .int .i64 c, .int .i64 r, .int .i64 q, .slice p n p0], .agg #[.int .i64 kz, .string tz, .string oz, .string sz, .bool bz, .int .i64 cz, .int .i64 rz, .int .i64 qz, .slice pz nz p0z], .int .i64 4] w fun x w' => x = .returned (.int .i64 0) ∧ Below w.heap.size w w' := by
  have CA := Aside0.mk ha
  have CB := Aside0.mk hb
  have HW := Aside0.mk hW
  have hmax : max k kz ≤ 4 := by omega
  clear ha hb hW
  go_enter Tryz.func23, Tryz.ntmps23
  go_upto_region 1 with (fail)
  obtain ⟨g, hg⟩ : ∃ g, g = w.heap.size := ⟨_, rfl⟩
  obtain ⟨g2, hg2⟩ : ∃ g2, g2 = w.heap.size + 1 := ⟨_, rfl⟩
  have K := Aside0.mk (show ((w.alloc (.cells #[.int .i64 k, .string t, .string o, .string s, .bool b, .int .i64 c, .int .i64 r, .int .i64 q, .slice p n p0] 33)).alloc (.cells #[.int .i64 kz, .string tz, .string oz, .string sz, .bool bz, .int .i64 cz, .int .i64 rz, .int .i64 qz, .slice pz nz p0z] 33)).heap[g]? = some (.cells #[.int .i64 k, .string t, .string o, .string s, .bool b, .int .i64 c, .int .i64 r, .int .i64 q, .slice p n p0] 33 (0, 0)) from hg ▸ blk_alloc (blk_new w _) _)
  have L := Aside0.mk (show ((w.alloc (.cells #[.int .i64 k, .string t, .string o, .string s, .bool b, .int .i64 c, .int .i64 r, .int .i64 q, .slice p n p0] 33)).alloc (.cells #[.int .i64 kz, .string tz, .string oz, .string sz, .bool bz, .int .i64 cz, .int .i64 rz, .int .i64 qz, .slice pz nz p0z] 33)).heap[g2]? = some (.cells #[.int .i64 kz, .string tz, .string oz, .string sz, .bool bz, .int .i64 cz, .int .i64 rz, .int .i64 qz, .slice pz nz p0z] 33 (0, 0)) by have h := blk_new (w.alloc (.cells #[.int .i64 k, .string t, .string o, .string s, .bool b, .int .i64 c, .int .i64 r, .int .i64 q, .slice p n p0] 33)) (.cells #[.int .i64 kz, .string tz, .string oz, .string sz, .bool bz, .int .i64 cz, .int .i64 rz, .int .i64 qz, .slice pz nz p0z] 33); rw [World.size_alloc, ← hg2] at h; exact h)
  have B := Aside0.mk (show Below w.heap.size w ((w.alloc (.cells #[.int .i64 k, .string t, .string o, .string s, .bool b, .int .i64 c, .int .i64 r, .int .i64 q, .slice p n p0] 33)).alloc (.cells #[.int .i64 kz, .string tz, .string oz, .string sz, .bool bz, .int .i64 cz, .int .i64 rz, .int .i64 qz, .slice pz nz p0z] 33)) from climb)
  obtain ⟨W, hW⟩ : ∃ W, W = ((w.alloc (.cells #[.int .i64 k, .string t, .string o, .string s, .bool b, .int .i64 c, .int .i64 r, .int .i64 q, .slice p n p0] 33)).alloc (.cells #[.int .i64 kz, .string tz, .string oz, .string sz, .bool bz, .int .i64 cz, .int .i64 rz, .int .i64 qz, .slice pz nz p0z] 33)) := ⟨_, rfl⟩
  rw [← hW] at K L B ⊢
  rw [← hg2, ← hg]
  clear hW hg hg2
  obtain ⟨c0, c1, c2, c3, c4, c5, c6, c7, c8⟩ := val_cells K.out
  obtain ⟨d0, d1, d2, d3, d4, d5, d6, d7, d8⟩ := val_cells L.out
  go_wp2_with (fail)
  go_loopg [13] 2 (fun kq v13 w' => ∃ (e : Nat), v13 = .int .i64 (e : Int) ∧ e + kq = 2 ∧ Aside0 (w'.heap[g]? = some (.cells #[.int .i64 k, .string t, .string o, .string s, .bool b, .int .i64 c, .int .i64 r, .int .i64 q, .slice p n p0] 33 (0, 0))) ∧ Aside0 (w'.heap[g2]? = some (.cells #[.int .i64 kz, .string tz, .string oz, .string sz, .bool bz, .int .i64 cz, .int .i64 rz, .int .i64 qz, .slice pz nz p0z] 33 (0, 0))) ∧ Aside0 (Below w.heap.size w w'))
  case atStart => exact ⟨0, rfl, rfl, ⟨blk_below K.out climb⟩, ⟨blk_below L.out climb⟩, ⟨bl B.out⟩⟩
  case round =>
    clear K L B c0 c1 c2 c3 c4 c5 c6 c7 c8 d0 d1 d2 d3 d4 d5 d6 d7 d8
    obtain ⟨e, rfl, hk, K, L, B⟩ := hrel
    have : e = 0 ∨ e = 1 ∨ e = 2 := by omega
    rcases this with rfl | rfl | rfl
    · have hix := ix85_0 k t o s b c r q p n p0 kz tz oz sz bz cz rz qz pz nz p0z
      go_upto_region 4 with (fail)
      have M := Aside0.mk (blk_new wr (.cells #[.int .i64 k, .string t, .string o, .string s, .bool b, .int .i64 c, .int .i64 r, .int .i64 q, .slice p n p0] 33))
      have U := Aside0.mk (show Below wr.heap.size wr (wr.alloc (.cells #[.int .i64 k, .string t, .string o, .string s, .bool b, .int .i64 c, .int .i64 r, .int .i64 q, .slice p n p0] 33)) from climb)
      obtain ⟨g3, hg3⟩ : ∃ g3, g3 = wr.heap.size := ⟨_, rfl⟩
      rw [← hg3] at M U
      obtain ⟨W3, hW3⟩ : ∃ W3, W3 = wr.alloc (.cells #[.int .i64 k, .string t, .string o, .string s, .bool b, .int .i64 c, .int .i64 r, .int .i64 q, .slice p n p0] 33) := ⟨_, rfl⟩
      rw [← hW3] at M U
      rw [← hg3, ← hW3]
      have B_ := Aside0.mk (below_step B.out (hg3 ▸ U.out))
      have K_ := Aside0.mk (blk_below K.out (hg3 ▸ U.out))
      have L_ := Aside0.mk (blk_below L.out (hg3 ▸ U.out))
      clear B K L U hW3 hg3 hix
      have B := B_
      have K := K_
      have L := L_
      clear B_ K_ L_
      obtain ⟨c0, c1, c2, c3, c4, c5, c6, c7, c8⟩ := val_cells M.out
      go_wp2_with (first | (go_at_call 10; (with_reducible refine (CA.out _ (HW.out.up (bl B.out))).mono ?_); rintro _ w1 ⟨rfl, hb1⟩; have B_ := Aside0.mk (below_step (bl B.out) hb1); have K_ := Aside0.mk (blk_below (blk_below K.out climb) hb1); have L_ := Aside0.mk (blk_below (blk_below L.out climb) hb1); clear B K L hb1; have B := B_; have K := K_; have L := L_; clear B_ K_ L_))
      go_roundg (gk - 1)
      case measure => omega
      case rel => exact ⟨1, rfl, by omega, ⟨blk_below K.out climb⟩, ⟨blk_below L.out climb⟩, ⟨bl B.out⟩⟩
    · have hix := ix85_1 k t o s b c r q p n p0 kz tz oz sz bz cz rz qz pz nz p0z
      go_upto_region 4 with (fail)
      have M := Aside0.mk (blk_new wr (.cells #[.int .i64 kz, .string tz, .string oz, .string sz, .bool bz, .int .i64 cz, .int .i64 rz, .int .i64 qz, .slice pz nz p0z] 33))
      have U := Aside0.mk (show Below wr.heap.size wr (wr.alloc (.cells #[.int .i64 kz, .string tz, .string oz, .string sz, .bool bz, .int .i64 cz, .int .i64 rz, .int .i64 qz, .slice pz nz p0z] 33)) from climb)
      obtain ⟨g3, hg3⟩ : ∃ g3, g3 = wr.heap.size := ⟨_, rfl⟩
      rw [← hg3] at M U
      obtain ⟨W3, hW3⟩ : ∃ W3, W3 = wr.alloc (.cells #[.int .i64 kz, .string tz, .string oz, .string sz, .bool bz, .int .i64 cz, .int .i64 rz, .int .i64 qz, .slice pz nz p0z] 33) := ⟨_, rfl⟩
      rw [← hW3] at M U
      rw [← hg3, ← hW3]
      have B_ := Aside0.mk (below_step B.out (hg3 ▸ U.out))
      have K_ := Aside0.mk (blk_below K.out (hg3 ▸ U.out))
      have L_ := Aside0.mk (blk_below L.out (hg3 ▸ U.out))
      clear B K L U hW3 hg3 hix
      have B := B_
      have K := K_
      have L := L_
      clear B_ K_ L_
      obtain ⟨c0, c1, c2, c3, c4, c5, c6, c7, c8⟩ := val_cells M.out
      go_wp2_with (first | (go_at_call 10; (with_reducible refine (CB.out _ (HW.out.up (bl B.out))).mono ?_); rintro _ w1 ⟨rfl, hb1⟩; have B_ := Aside0.mk (below_step (bl B.out) hb1); have K_ := Aside0.mk (blk_below (blk_below K.out climb) hb1); have L_ := Aside0.mk (blk_below (blk_below L.out climb) hb1); clear B K L hb1; have B := B_; have K := K_; have L := L_; clear B_ K_ L_))
      go_roundg (gk - 1)
      case measure => omega
      case rel => exact ⟨2, rfl, by omega, ⟨blk_below K.out climb⟩, ⟨blk_below L.out climb⟩, ⟨bl B.out⟩⟩
    · obtain ⟨c0, c1, c2, c3, c4, c5, c6, c7, c8⟩ := val_cells K.out
      obtain ⟨d0, d1, d2, d3, d4, d5, d6, d7, d8⟩ := val_cells L.out
      go_wp2
      go_ret
      exact ⟨rfl, bl B.out⟩
set_option maxHeartbeats 8000000 in
set_option maxRecDepth 100000 in
theorem order_diff (k : Int) (t o s : ByteArray) (b : Bool) (c r q : Int) (p : Option Addr) (n p0 : Nat) (kz : Int) (tz oz sz : ByteArray) (bz : Bool) (cz rz qz : Int) (pz : Option Addr) (nz p0z : Nat) (h0 : 0 ≤ k) (h4 : k ≤ 4) (hz0 : 0 ≤ kz) (hz4 : kz ≤ 4) (hne : k ≠ kz) (hbo : ∀ w, Wd w → Calls Tryz.prog 23 #[.agg #[.int .i64 k, .string t, .string o, .string s, .bool b, .int .i64 c, .int .i64 r, .int .i64 q, .slice p n p0], .agg #[.int .i64 kz, .string tz, .string oz, .string sz, .bool bz, .int .i64 cz, .int .i64 rz, .int .i64 qz, .slice pz nz p0z], .int .i64 4] w fun x w' => x = .returned (.int .i64 0) ∧ Below w.heap.size w w') (w : World) (hW : Wd w) :
    Calls Tryz.prog 11 #[.agg #[.int .i64 k, .string t, .string o, .string s, .bool b, .int .i64 c, .int .i64 r, .int .i64 q, .slice p n p0], .agg #[.int .i64 kz, .string tz, .string oz, .string sz, .bool bz, .int .i64 cz, .int .i64 rz, .int .i64 qz, .slice pz nz p0z]] w fun x w' => x = .returned (.tuple #[.int .i64 (cmpI (rankF k) (rankF kz)), .int .i64 0]) ∧ Below w.heap.size w w' := by
  have BC := Aside0.mk hbo
  have HW := Aside0.mk hW
  have R1 := Aside0.mk (fun w => rank_calls k t o s b c r q p n p0 h0 h4 w)
  have R2 := Aside0.mk (fun w => rank_calls kz tz oz sz bz cz rz qz pz nz p0z hz0 hz4 w)
  have hqq : (k == kz) = false := beq_eq_false_iff_ne.2 hne
  have CC := Aside0.mk (fun w => cmpI_calls (rankF k) (rankF kz) w)
  generalize rankF k = x1 at R1 CC ⊢
  generalize rankF kz = x2 at R2 CC ⊢
  generalize cmpI x1 x2 = e at CC ⊢
  clear hbo hW h0 h4 hz0 hz4
  go_enter Tryz.func11, Tryz.ntmps11
  go_upto_region 1 with (fail)
  obtain ⟨g, hg⟩ : ∃ g, g = w.heap.size := ⟨_, rfl⟩
  obtain ⟨g2, hg2⟩ : ∃ g2, g2 = w.heap.size + 1 := ⟨_, rfl⟩
  have K := Aside0.mk (show ((w.alloc (.cells #[.int .i64 k, .string t, .string o, .string s, .bool b, .int .i64 c, .int .i64 r, .int .i64 q, .slice p n p0] 33)).alloc (.cells #[.int .i64 kz, .string tz, .string oz, .string sz, .bool bz, .int .i64 cz, .int .i64 rz, .int .i64 qz, .slice pz nz p0z] 33)).heap[g]? = some (.cells #[.int .i64 k, .string t, .string o, .string s, .bool b, .int .i64 c, .int .i64 r, .int .i64 q, .slice p n p0] 33 (0, 0)) from hg ▸ blk_alloc (blk_new w _) _)
  have L := Aside0.mk (show ((w.alloc (.cells #[.int .i64 k, .string t, .string o, .string s, .bool b, .int .i64 c, .int .i64 r, .int .i64 q, .slice p n p0] 33)).alloc (.cells #[.int .i64 kz, .string tz, .string oz, .string sz, .bool bz, .int .i64 cz, .int .i64 rz, .int .i64 qz, .slice pz nz p0z] 33)).heap[g2]? = some (.cells #[.int .i64 kz, .string tz, .string oz, .string sz, .bool bz, .int .i64 cz, .int .i64 rz, .int .i64 qz, .slice pz nz p0z] 33 (0, 0)) by have h := blk_new (w.alloc (.cells #[.int .i64 k, .string t, .string o, .string s, .bool b, .int .i64 c, .int .i64 r, .int .i64 q, .slice p n p0] 33)) (.cells #[.int .i64 kz, .string tz, .string oz, .string sz, .bool bz, .int .i64 cz, .int .i64 rz, .int .i64 qz, .slice pz nz p0z] 33); rw [World.size_alloc, ← hg2] at h; exact h)
  have B := Aside0.mk (show Below w.heap.size w ((w.alloc (.cells #[.int .i64 k, .string t, .string o, .string s, .bool b, .int .i64 c, .int .i64 r, .int .i64 q, .slice p n p0] 33)).alloc (.cells #[.int .i64 kz, .string tz, .string oz, .string sz, .bool bz, .int .i64 cz, .int .i64 rz, .int .i64 qz, .slice pz nz p0z] 33)) from climb)
  obtain ⟨W, hW⟩ : ∃ W, W = ((w.alloc (.cells #[.int .i64 k, .string t, .string o, .string s, .bool b, .int .i64 c, .int .i64 r, .int .i64 q, .slice p n p0] 33)).alloc (.cells #[.int .i64 kz, .string tz, .string oz, .string sz, .bool bz, .int .i64 cz, .int .i64 rz, .int .i64 qz, .slice pz nz p0z] 33)) := ⟨_, rfl⟩
  rw [← hW] at K L B ⊢
  rw [← hg2, ← hg]
  clear hW hg hg2
  obtain ⟨c0, c1, c2, c3, c4, c5, c6, c7, c8⟩ := val_cells K.out
  obtain ⟨d0, d1, d2, d3, d4, d5, d6, d7, d8⟩ := val_cells L.out
  go_upto_region 5 with (first | (go_at_call 23; (with_reducible refine (BC.out _ (HW.out.up (bl B.out))).mono ?_); rintro _ w1 ⟨rfl, hb1⟩; have B_ := Aside0.mk (below_step (bl B.out) hb1); have K_ := Aside0.mk (blk_below (blk_below K.out climb) hb1); have L_ := Aside0.mk (blk_below (blk_below L.out climb) hb1); clear B K L hb1 c0 c1 c2 c3 c4 c5 c6 c7 c8 d0 d1 d2 d3 d4 d5 d6 d7 d8; have B := B_; have K := K_; have L := L_; clear B_ K_ L_; obtain ⟨c0, c1, c2, c3, c4, c5, c6, c7, c8⟩ := val_cells K.out; obtain ⟨d0, d1, d2, d3, d4, d5, d6, d7, d8⟩ := val_cells L.out))
  obtain ⟨W, hW⟩ : ∃ W, W = w1 := ⟨_, rfl⟩
  rw [← hW] at K L B ⊢
  clear hW
  have C := Aside0.mk (Below.refl W.heap.size W)
  have L0 := Aside0.mk (fun w' (h : Below W.heap.size W w') => (show w'.cell? ⟨g, 0, none⟩ = some (.int .i64 k) ∧ w'.cell? ⟨g, 1, none⟩ = some (.string t) ∧ w'.cell? ⟨g, 2, none⟩ = some (.string o) ∧ w'.cell? ⟨g, 3, none⟩ = some (.string s) ∧ w'.cell? ⟨g, 4, none⟩ = some (.bool b) ∧ w'.cell? ⟨g, 5, none⟩ = some (.int .i64 c) ∧ w'.cell? ⟨g, 6, none⟩ = some (.int .i64 r) ∧ w'.cell? ⟨g, 7, none⟩ = some (.int .i64 q) ∧ w'.cell? ⟨g, 8, none⟩ = some (.slice p n p0) ∧ w'.cell? ⟨g2, 0, none⟩ = some (.int .i64 kz) ∧ w'.cell? ⟨g2, 1, none⟩ = some (.string tz) ∧ w'.cell? ⟨g2, 2, none⟩ = some (.string oz) ∧ w'.cell? ⟨g2, 3, none⟩ = some (.string sz) ∧ w'.cell? ⟨g2, 4, none⟩ = some (.bool bz) ∧ w'.cell? ⟨g2, 5, none⟩ = some (.int .i64 cz) ∧ w'.cell? ⟨g2, 6, none⟩ = some (.int .i64 rz) ∧ w'.cell? ⟨g2, 7, none⟩ = some (.int .i64 qz) ∧ w'.cell? ⟨g2, 8, none⟩ = some (.slice pz nz p0z) from by obtain ⟨c0, c1, c2, c3, c4, c5, c6, c7, c8⟩ := val_cells (blk_below K.out h); obtain ⟨d0, d1, d2, d3, d4, d5, d6, d7, d8⟩ := val_cells (blk_below L.out h); exact ⟨c0, c1, c2, c3, c4, c5, c6, c7, c8, d0, d1, d2, d3, d4, d5, d6, d7, d8⟩))
  clear c0 c1 c2 c3 c4 c5 c6 c7 c8 d0 d1 d2 d3 d4 d5 d6 d7 d8
  go_region_held3 (fun w' => w'.cell? ⟨g, 0, none⟩ = some (.int .i64 k) ∧ w'.cell? ⟨g, 1, none⟩ = some (.string t) ∧ w'.cell? ⟨g, 2, none⟩ = some (.string o) ∧ w'.cell? ⟨g, 3, none⟩ = some (.string s) ∧ w'.cell? ⟨g, 4, none⟩ = some (.bool b) ∧ w'.cell? ⟨g, 5, none⟩ = some (.int .i64 c) ∧ w'.cell? ⟨g, 6, none⟩ = some (.int .i64 r) ∧ w'.cell? ⟨g, 7, none⟩ = some (.int .i64 q) ∧ w'.cell? ⟨g, 8, none⟩ = some (.slice p n p0) ∧ w'.cell? ⟨g2, 0, none⟩ = some (.int .i64 kz) ∧ w'.cell? ⟨g2, 1, none⟩ = some (.string tz) ∧ w'.cell? ⟨g2, 2, none⟩ = some (.string oz) ∧ w'.cell? ⟨g2, 3, none⟩ = some (.string sz) ∧ w'.cell? ⟨g2, 4, none⟩ = some (.bool bz) ∧ w'.cell? ⟨g2, 5, none⟩ = some (.int .i64 cz) ∧ w'.cell? ⟨g2, 6, none⟩ = some (.int .i64 rz) ∧ w'.cell? ⟨g2, 7, none⟩ = some (.int .i64 qz) ∧ w'.cell? ⟨g2, 8, none⟩ = some (.slice pz nz p0z)) (first | exact L0.out _ C.out | exact L0.out _ (bl C.out) | exact L0.out _ climb) (first | (go_at_call_of 25 t; (with_reducible refine (R1.out _).mono ?_); rintro _ w1 ⟨rfl, hb1⟩; have C_ := Aside0.mk (below_step (bl C.out) hb1); clear C hb1; have C := C_; clear C_) | (go_at_call_of 25 tz; (with_reducible refine (R2.out _).mono ?_); rintro _ w1 ⟨rfl, hb1⟩; have C_ := Aside0.mk (below_step (bl C.out) hb1); clear C hb1; have C := C_; clear C_) | (go_at_call 24; (with_reducible refine (CC.out _).mono ?_); rintro _ w1 ⟨rfl, hb1⟩; have C_ := Aside0.mk (below_step (bl C.out) hb1); clear C hb1; have C := C_; clear C_))
  all_goals
    try go_wp2
    go_ret2
    exact ⟨rfl, below_step (bl B.out) (bl C.out)⟩
set_option maxHeartbeats 8000000 in
set_option maxRecDepth 100000 in
theorem order_zero (t o s : ByteArray) (b : Bool) (c r q : Int) (p : Option Addr) (n p0 : Nat) (tz oz sz : ByteArray) (bz : Bool) (cz rz qz : Int) (pz : Option Addr) (nz p0z : Nat) (hbo : ∀ w, Wd w → Calls Tryz.prog 23 #[.agg #[.int .i64 0, .string t, .string o, .string s, .bool b, .int .i64 c, .int .i64 r, .int .i64 q, .slice p n p0], .agg #[.int .i64 0, .string tz, .string oz, .string sz, .bool bz, .int .i64 cz, .int .i64 rz, .int .i64 qz, .slice pz nz p0z], .int .i64 4] w fun x w' => x = .returned (.int .i64 0) ∧ Below w.heap.size w w') (w : World) (hW : Wd w) :
    Calls Tryz.prog 11 #[.agg #[.int .i64 0, .string t, .string o, .string s, .bool b, .int .i64 c, .int .i64 r, .int .i64 q, .slice p n p0], .agg #[.int .i64 0, .string tz, .string oz, .string sz, .bool bz, .int .i64 cz, .int .i64 rz, .int .i64 qz, .slice pz nz p0z]] w fun x w' => x = .returned (.tuple #[.int .i64 0, .int .i64 0]) ∧ Below w.heap.size w w' := by
  have BC := Aside0.mk hbo
  have HW := Aside0.mk hW
  clear hbo hW
  go_enter Tryz.func11, Tryz.ntmps11
  go_upto_region 1 with (fail)
  obtain ⟨g, hg⟩ : ∃ g, g = w.heap.size := ⟨_, rfl⟩
  obtain ⟨g2, hg2⟩ : ∃ g2, g2 = w.heap.size + 1 := ⟨_, rfl⟩
  have K := Aside0.mk (show ((w.alloc (.cells #[.int .i64 0, .string t, .string o, .string s, .bool b, .int .i64 c, .int .i64 r, .int .i64 q, .slice p n p0] 33)).alloc (.cells #[.int .i64 0, .string tz, .string oz, .string sz, .bool bz, .int .i64 cz, .int .i64 rz, .int .i64 qz, .slice pz nz p0z] 33)).heap[g]? = some (.cells #[.int .i64 0, .string t, .string o, .string s, .bool b, .int .i64 c, .int .i64 r, .int .i64 q, .slice p n p0] 33 (0, 0)) from hg ▸ blk_alloc (blk_new w _) _)
  have L := Aside0.mk (show ((w.alloc (.cells #[.int .i64 0, .string t, .string o, .string s, .bool b, .int .i64 c, .int .i64 r, .int .i64 q, .slice p n p0] 33)).alloc (.cells #[.int .i64 0, .string tz, .string oz, .string sz, .bool bz, .int .i64 cz, .int .i64 rz, .int .i64 qz, .slice pz nz p0z] 33)).heap[g2]? = some (.cells #[.int .i64 0, .string tz, .string oz, .string sz, .bool bz, .int .i64 cz, .int .i64 rz, .int .i64 qz, .slice pz nz p0z] 33 (0, 0)) by have h := blk_new (w.alloc (.cells #[.int .i64 0, .string t, .string o, .string s, .bool b, .int .i64 c, .int .i64 r, .int .i64 q, .slice p n p0] 33)) (.cells #[.int .i64 0, .string tz, .string oz, .string sz, .bool bz, .int .i64 cz, .int .i64 rz, .int .i64 qz, .slice pz nz p0z] 33); rw [World.size_alloc, ← hg2] at h; exact h)
  have B := Aside0.mk (show Below w.heap.size w ((w.alloc (.cells #[.int .i64 0, .string t, .string o, .string s, .bool b, .int .i64 c, .int .i64 r, .int .i64 q, .slice p n p0] 33)).alloc (.cells #[.int .i64 0, .string tz, .string oz, .string sz, .bool bz, .int .i64 cz, .int .i64 rz, .int .i64 qz, .slice pz nz p0z] 33)) from climb)
  obtain ⟨W, hW⟩ : ∃ W, W = ((w.alloc (.cells #[.int .i64 0, .string t, .string o, .string s, .bool b, .int .i64 c, .int .i64 r, .int .i64 q, .slice p n p0] 33)).alloc (.cells #[.int .i64 0, .string tz, .string oz, .string sz, .bool bz, .int .i64 cz, .int .i64 rz, .int .i64 qz, .slice pz nz p0z] 33)) := ⟨_, rfl⟩
  rw [← hW] at K L B ⊢
  rw [← hg2, ← hg]
  clear hW hg hg2
  obtain ⟨c0, c1, c2, c3, c4, c5, c6, c7, c8⟩ := val_cells K.out
  obtain ⟨d0, d1, d2, d3, d4, d5, d6, d7, d8⟩ := val_cells L.out
  go_wp2_with (first | (go_at_call 23; (with_reducible refine (BC.out _ (HW.out.up (bl B.out))).mono ?_); rintro _ w1 ⟨rfl, hb1⟩; have B_ := Aside0.mk (below_step (bl B.out) hb1); have K_ := Aside0.mk (blk_below (blk_below K.out climb) hb1); have L_ := Aside0.mk (blk_below (blk_below L.out climb) hb1); clear B K L hb1 c0 c1 c2 c3 c4 c5 c6 c7 c8 d0 d1 d2 d3 d4 d5 d6 d7 d8; have B := B_; have K := K_; have L := L_; clear B_ K_ L_; obtain ⟨c0, c1, c2, c3, c4, c5, c6, c7, c8⟩ := val_cells K.out; obtain ⟨d0, d1, d2, d3, d4, d5, d6, d7, d8⟩ := val_cells L.out))
  go_ret2
  exact ⟨rfl, bl B.out⟩
set_option maxHeartbeats 8000000 in
set_option maxRecDepth 100000 in
theorem order_same (k : Int) (t o s : ByteArray) (b : Bool) (c r q : Int) (p : Option Addr) (n p0 : Nat) (tz oz sz : ByteArray) (bz : Bool) (cz rz qz : Int) (pz : Option Addr) (nz p0z : Nat) (hk : k ≠ 0) (x : Int) (hcm : ∀ w, Wd w → Calls Tryz.prog 27 #[.agg #[.int .i64 k, .string t, .string o, .string s, .bool b, .int .i64 c, .int .i64 r, .int .i64 q, .slice p n p0], .agg #[.int .i64 k, .string tz, .string oz, .string sz, .bool bz, .int .i64 cz, .int .i64 rz, .int .i64 qz, .slice pz nz p0z]] w fun r w' => r = .returned (.int .i64 x) ∧ Below w.heap.size w w') (hbo : ∀ w, Wd w → Calls Tryz.prog 23 #[.agg #[.int .i64 k, .string t, .string o, .string s, .bool b, .int .i64 c, .int .i64 r, .int .i64 q, .slice p n p0], .agg #[.int .i64 k, .string tz, .string oz, .string sz, .bool bz, .int .i64 cz, .int .i64 rz, .int .i64 qz, .slice pz nz p0z], .int .i64 4] w fun x w' => x = .returned (.int .i64 0) ∧ Below w.heap.size w w') (w : World) (hW : Wd w) :
    Calls Tryz.prog 11 #[.agg #[.int .i64 k, .string t, .string o, .string s, .bool b, .int .i64 c, .int .i64 r, .int .i64 q, .slice p n p0], .agg #[.int .i64 k, .string tz, .string oz, .string sz, .bool bz, .int .i64 cz, .int .i64 rz, .int .i64 qz, .slice pz nz p0z]] w fun r w' => r = .returned (.tuple #[.int .i64 (orI x (cmpS s sz)), .int .i64 0]) ∧ Below w.heap.size w w' := by
  have BC := Aside0.mk hbo
  have HW := Aside0.mk hW
  have R1 := Aside0.mk hcm
  have R2 := Aside0.mk (fun w => cmpS_calls s sz w)
  have hqq : (k == 0) = false := beq_eq_false_iff_ne.2 hk
  have hqq2 : (k == k) = true := beq_self_eq_true _
  generalize cmpS s sz = y at R2 ⊢
  have CC := Aside0.mk (fun g cap w h0 h1 => orI_calls x y g cap w h0 h1)
  generalize orI x y = e at CC ⊢
  clear hbo hW hcm
  go_enter Tryz.func11, Tryz.ntmps11
  go_upto_region 1 with (fail)
  obtain ⟨g, hg⟩ : ∃ g, g = w.heap.size := ⟨_, rfl⟩
  obtain ⟨g2, hg2⟩ : ∃ g2, g2 = w.heap.size + 1 := ⟨_, rfl⟩
  have K := Aside0.mk (show ((w.alloc (.cells #[.int .i64 k, .string t, .string o, .string s, .bool b, .int .i64 c, .int .i64 r, .int .i64 q, .slice p n p0] 33)).alloc (.cells #[.int .i64 k, .string tz, .string oz, .string sz, .bool bz, .int .i64 cz, .int .i64 rz, .int .i64 qz, .slice pz nz p0z] 33)).heap[g]? = some (.cells #[.int .i64 k, .string t, .string o, .string s, .bool b, .int .i64 c, .int .i64 r, .int .i64 q, .slice p n p0] 33 (0, 0)) from hg ▸ blk_alloc (blk_new w _) _)
  have L := Aside0.mk (show ((w.alloc (.cells #[.int .i64 k, .string t, .string o, .string s, .bool b, .int .i64 c, .int .i64 r, .int .i64 q, .slice p n p0] 33)).alloc (.cells #[.int .i64 k, .string tz, .string oz, .string sz, .bool bz, .int .i64 cz, .int .i64 rz, .int .i64 qz, .slice pz nz p0z] 33)).heap[g2]? = some (.cells #[.int .i64 k, .string tz, .string oz, .string sz, .bool bz, .int .i64 cz, .int .i64 rz, .int .i64 qz, .slice pz nz p0z] 33 (0, 0)) by have h := blk_new (w.alloc (.cells #[.int .i64 k, .string t, .string o, .string s, .bool b, .int .i64 c, .int .i64 r, .int .i64 q, .slice p n p0] 33)) (.cells #[.int .i64 k, .string tz, .string oz, .string sz, .bool bz, .int .i64 cz, .int .i64 rz, .int .i64 qz, .slice pz nz p0z] 33); rw [World.size_alloc, ← hg2] at h; exact h)
  have B := Aside0.mk (show Below w.heap.size w ((w.alloc (.cells #[.int .i64 k, .string t, .string o, .string s, .bool b, .int .i64 c, .int .i64 r, .int .i64 q, .slice p n p0] 33)).alloc (.cells #[.int .i64 k, .string tz, .string oz, .string sz, .bool bz, .int .i64 cz, .int .i64 rz, .int .i64 qz, .slice pz nz p0z] 33)) from climb)
  obtain ⟨W, hW⟩ : ∃ W, W = ((w.alloc (.cells #[.int .i64 k, .string t, .string o, .string s, .bool b, .int .i64 c, .int .i64 r, .int .i64 q, .slice p n p0] 33)).alloc (.cells #[.int .i64 k, .string tz, .string oz, .string sz, .bool bz, .int .i64 cz, .int .i64 rz, .int .i64 qz, .slice pz nz p0z] 33)) := ⟨_, rfl⟩
  rw [← hW] at K L B ⊢
  rw [← hg2, ← hg]
  clear hW hg hg2
  obtain ⟨c0, c1, c2, c3, c4, c5, c6, c7, c8⟩ := val_cells K.out
  obtain ⟨d0, d1, d2, d3, d4, d5, d6, d7, d8⟩ := val_cells L.out
  go_upto_region 8 with (first | (go_at_call 23; (with_reducible refine (BC.out _ (HW.out.up (bl B.out))).mono ?_); rintro _ w1 ⟨rfl, hb1⟩; have B_ := Aside0.mk (below_step (bl B.out) hb1); have K_ := Aside0.mk (blk_below (blk_below K.out climb) hb1); have L_ := Aside0.mk (blk_below (blk_below L.out climb) hb1); clear B K L hb1 c0 c1 c2 c3 c4 c5 c6 c7 c8 d0 d1 d2 d3 d4 d5 d6 d7 d8; have B := B_; have K := K_; have L := L_; clear B_ K_ L_; obtain ⟨c0, c1, c2, c3, c4, c5, c6, c7, c8⟩ := val_cells K.out; obtain ⟨d0, d1, d2, d3, d4, d5, d6, d7, d8⟩ := val_cells L.out))
  obtain ⟨W, hW⟩ : ∃ W, W = w1 := ⟨_, rfl⟩
  rw [← hW] at K L B ⊢
  have HWW := Aside0.mk (HW.out.up B.out)
  clear hW
  have C := Aside0.mk (Below.refl W.heap.size W)
  have L0 := Aside0.mk (fun w' (h : Below W.heap.size W w') => (show w'.cell? ⟨g, 0, none⟩ = some (.int .i64 k) ∧ w'.cell? ⟨g, 1, none⟩ = some (.string t) ∧ w'.cell? ⟨g, 2, none⟩ = some (.string o) ∧ w'.cell? ⟨g, 3, none⟩ = some (.string s) ∧ w'.cell? ⟨g, 4, none⟩ = some (.bool b) ∧ w'.cell? ⟨g, 5, none⟩ = some (.int .i64 c) ∧ w'.cell? ⟨g, 6, none⟩ = some (.int .i64 r) ∧ w'.cell? ⟨g, 7, none⟩ = some (.int .i64 q) ∧ w'.cell? ⟨g, 8, none⟩ = some (.slice p n p0) ∧ w'.cell? ⟨g2, 0, none⟩ = some (.int .i64 k) ∧ w'.cell? ⟨g2, 1, none⟩ = some (.string tz) ∧ w'.cell? ⟨g2, 2, none⟩ = some (.string oz) ∧ w'.cell? ⟨g2, 3, none⟩ = some (.string sz) ∧ w'.cell? ⟨g2, 4, none⟩ = some (.bool bz) ∧ w'.cell? ⟨g2, 5, none⟩ = some (.int .i64 cz) ∧ w'.cell? ⟨g2, 6, none⟩ = some (.int .i64 rz) ∧ w'.cell? ⟨g2, 7, none⟩ = some (.int .i64 qz) ∧ w'.cell? ⟨g2, 8, none⟩ = some (.slice pz nz p0z) from by obtain ⟨c0, c1, c2, c3, c4, c5, c6, c7, c8⟩ := val_cells (blk_below K.out h); obtain ⟨d0, d1, d2, d3, d4, d5, d6, d7, d8⟩ := val_cells (blk_below L.out h); exact ⟨c0, c1, c2, c3, c4, c5, c6, c7, c8, d0, d1, d2, d3, d4, d5, d6, d7, d8⟩))
  clear c0 c1 c2 c3 c4 c5 c6 c7 c8 d0 d1 d2 d3 d4 d5 d6 d7 d8
  go_region_held3 (fun w' => w'.cell? ⟨g, 0, none⟩ = some (.int .i64 k) ∧ w'.cell? ⟨g, 1, none⟩ = some (.string t) ∧ w'.cell? ⟨g, 2, none⟩ = some (.string o) ∧ w'.cell? ⟨g, 3, none⟩ = some (.string s) ∧ w'.cell? ⟨g, 4, none⟩ = some (.bool b) ∧ w'.cell? ⟨g, 5, none⟩ = some (.int .i64 c) ∧ w'.cell? ⟨g, 6, none⟩ = some (.int .i64 r) ∧ w'.cell? ⟨g, 7, none⟩ = some (.int .i64 q) ∧ w'.cell? ⟨g, 8, none⟩ = some (.slice p n p0) ∧ w'.cell? ⟨g2, 0, none⟩ = some (.int .i64 k) ∧ w'.cell? ⟨g2, 1, none⟩ = some (.string tz) ∧ w'.cell? ⟨g2, 2, none⟩ = some (.string oz) ∧ w'.cell? ⟨g2, 3, none⟩ = some (.string sz) ∧ w'.cell? ⟨g2, 4, none⟩ = some (.bool bz) ∧ w'.cell? ⟨g2, 5, none⟩ = some (.int .i64 cz) ∧ w'.cell? ⟨g2, 6, none⟩ = some (.int .i64 rz) ∧ w'.cell? ⟨g2, 7, none⟩ = some (.int .i64 qz) ∧ w'.cell? ⟨g2, 8, none⟩ = some (.slice pz nz p0z)) (first | exact L0.out _ C.out | exact L0.out _ (bl C.out) | exact L0.out _ climb) (first | (go_at_call 27; (with_reducible refine (R1.out _ ?_).mono ?_); (first | exact HWW.out.up C.out | exact HWW.out.up (bl C.out) | exact HWW.out.up climb); rintro _ w1 ⟨rfl, hb1⟩; have C_ := Aside0.mk (below_step (bl C.out) hb1); clear C hb1; have C := C_; clear C_) | (go_at_call 28; (with_reducible refine (R2.out _).mono ?_); rintro _ w1 ⟨rfl, hb1⟩; have C_ := Aside0.mk (below_step (bl C.out) hb1); clear C hb1; have C := C_; clear C_) | (go_at_call 26; (with_reducible refine (CC.out _ _ _ ?_ ?_).mono ?_); (exact (blk_cell (blk_new _ _) 0).trans rfl); (exact (blk_cell (blk_new _ _) 1).trans rfl); rintro _ w1 ⟨rfl, hb1⟩; have C_ := Aside0.mk (below_step (bl C.out) hb1); clear C hb1; have C := C_; clear C_))
  all_goals
    try go_wp2
    go_ret2
    exact ⟨rfl, below_step (bl B.out) (bl C.out)⟩
end Go.Proofs.YtckfdhnimmaeiaaGreatDoor.Pr
