/- ValueOrderTotal, walked (printed by wip/tools/mktotal.py). -/
import Derived.Test.YtckfdhnimmaeiaaGreatDoorFh
import Derived.Test.YtckfdhnimmaeiaaGreatDoorFf
import Derived.Test.YtckfdhnimmaeiaaGreatDoorFg
import Derived.Test.YtckfdhnimmaeiaaGreatDoorEh
import Derived.BigGuardPart
namespace Go.Proofs.YtckfdhnimmaeiaaGreatDoor.Pr
open Go.RowKit Go.Proofs.YtckfdhnimmaeiaaGreatDoorW.PrintWords Go.Proofs.YtckfdhnimmaeiaaGreatDoorW.PrintLast Go.Proofs.YtckfdhnimmaeiaaGreatDoorW.PrintMore
set_option linter.unusedVariables false
set_option linter.unusedSimpArgs false

theorem ix34_0 (k : Int) (t o s : ByteArray) (b : Bool) (c r q : Int) (p : Option Addr) (n p0 : Nat) (kz : Int) (tz oz sz : ByteArray) (bz : Bool) (cz rz qz : Int) (pz : Option Addr) (nz p0z : Nat) (km : Int) (tm om sm : ByteArray) (bm : Bool) (cm rm qm : Int) (pm : Option Addr) (nm p0m : Nat) (W : World) : (Instr.index 34 (.agg #[.int .i64 k, .string t, .string o, .string s, .bool b, .int .i64 c, .int .i64 r, .int .i64 q, .slice p n p0, .int .i64 kz, .string tz, .string oz, .string sz, .bool bz, .int .i64 cz, .int .i64 rz, .int .i64 qz, .slice pz nz p0z, .int .i64 km, .string tm, .string om, .string sm, .bool bm, .int .i64 cm, .int .i64 rm, .int .i64 qm, .slice pm nm p0m]) (.int .i64 0)).run Tryz.prog W = .ok (.agg #[.int .i64 k, .string t, .string o, .string s, .bool b, .int .i64 c, .int .i64 r, .int .i64 q, .slice p n p0]) W := by kernel_rfl
theorem ix34_1 (k : Int) (t o s : ByteArray) (b : Bool) (c r q : Int) (p : Option Addr) (n p0 : Nat) (kz : Int) (tz oz sz : ByteArray) (bz : Bool) (cz rz qz : Int) (pz : Option Addr) (nz p0z : Nat) (km : Int) (tm om sm : ByteArray) (bm : Bool) (cm rm qm : Int) (pm : Option Addr) (nm p0m : Nat) (W : World) : (Instr.index 34 (.agg #[.int .i64 k, .string t, .string o, .string s, .bool b, .int .i64 c, .int .i64 r, .int .i64 q, .slice p n p0, .int .i64 kz, .string tz, .string oz, .string sz, .bool bz, .int .i64 cz, .int .i64 rz, .int .i64 qz, .slice pz nz p0z, .int .i64 km, .string tm, .string om, .string sm, .bool bm, .int .i64 cm, .int .i64 rm, .int .i64 qm, .slice pm nm p0m]) (.int .i64 1)).run Tryz.prog W = .ok (.agg #[.int .i64 kz, .string tz, .string oz, .string sz, .bool bz, .int .i64 cz, .int .i64 rz, .int .i64 qz, .slice pz nz p0z]) W := by kernel_rfl
theorem ix34_2 (k : Int) (t o s : ByteArray) (b : Bool) (c r q : Int) (p : Option Addr) (n p0 : Nat) (kz : Int) (tz oz sz : ByteArray) (bz : Bool) (cz rz qz : Int) (pz : Option Addr) (nz p0z : Nat) (km : Int) (tm om sm : ByteArray) (bm : Bool) (cm rm qm : Int) (pm : Option Addr) (nm p0m : Nat) (W : World) : (Instr.index 34 (.agg #[.int .i64 k, .string t, .string o, .string s, .bool b, .int .i64 c, .int .i64 r, .int .i64 q, .slice p n p0, .int .i64 kz, .string tz, .string oz, .string sz, .bool bz, .int .i64 cz, .int .i64 rz, .int .i64 qz, .slice pz nz p0z, .int .i64 km, .string tm, .string om, .string sm, .bool bm, .int .i64 cm, .int .i64 rm, .int .i64 qm, .slice pm nm p0m]) (.int .i64 2)).run Tryz.prog W = .ok (.agg #[.int .i64 km, .string tm, .string om, .string sm, .bool bm, .int .i64 cm, .int .i64 rm, .int .i64 qm, .slice pm nm p0m]) W := by kernel_rfl
/-- What value.Check answers: some number where there is an array, else one number in every world. -/
def Chk (A : Prop) (k : Int) (t o s : ByteArray) (b : Bool) (c r q : Int) (p : Option Addr) (n p0 : Nat) : Prop := (k = 5 ∧ ∀ w, Wd w → Itm w p n → Calls Tryz.prog 10 #[.agg #[.int .i64 k, .string t, .string o, .string s, .bool b, .int .i64 c, .int .i64 r, .int .i64 q, .slice p n p0]] w fun x w' => SomeI x ∧ Below w.heap.size w w') ∨ (k ≠ 5 ∧ ∃ e : Int, (∀ w, Wd w → Calls Tryz.prog 10 #[.agg #[.int .i64 k, .string t, .string o, .string s, .bool b, .int .i64 c, .int .i64 r, .int .i64 q, .slice p n p0]] w fun x w' => x = .returned (.int .i64 e) ∧ Below w.heap.size w w') ∧ (e = 0 → A))
/-- What value.Order answers. -/
abbrev Ord (k : Int) (t o s : ByteArray) (b : Bool) (c r q : Int) (p : Option Addr) (n p0 : Nat) (kz : Int) (tz oz sz : ByteArray) (bz : Bool) (cz rz qz : Int) (pz : Option Addr) (nz p0z : Nat) (x : Int) : Prop := ∀ w, Wd w → Calls Tryz.prog 11 #[.agg #[.int .i64 k, .string t, .string o, .string s, .bool b, .int .i64 c, .int .i64 r, .int .i64 q, .slice p n p0], .agg #[.int .i64 kz, .string tz, .string oz, .string sz, .bool bz, .int .i64 cz, .int .i64 rz, .int .i64 qz, .slice pz nz p0z]] w fun e w' => e = .returned (.tuple #[.int .i64 x, .int .i64 0]) ∧ Below w.heap.size w w'
def Tri (x : Int) : Prop := x = -1 ∨ x = 0 ∨ x = 1
structure Law (k : Int) (t o s : ByteArray) (b : Bool) (c r q : Int) (p : Option Addr) (n p0 : Nat) (kz : Int) (tz oz sz : ByteArray) (bz : Bool) (cz rz qz : Int) (pz : Option Addr) (nz p0z : Nat) (km : Int) (tm om sm : ByteArray) (bm : Bool) (cm rm qm : Int) (pm : Option Addr) (nm p0m : Nat) (x u v : Int) : Prop where
  ab : Ord k t o s b c r q p n p0 kz tz oz sz bz cz rz qz pz nz p0z x
  ba : Ord kz tz oz sz bz cz rz qz pz nz p0z k t o s b c r q p n p0 (-x)
  bc : Ord kz tz oz sz bz cz rz qz pz nz p0z km tm om sm bm cm rm qm pm nm p0m u
  ac : Ord k t o s b c r q p n p0 km tm om sm bm cm rm qm pm nm p0m v
  tx : Tri x
  tu : Tri u
  tv : Tri v
  up : x ≤ 0 → u ≤ 0 → v ≤ 0
  dn : 0 ≤ x → 0 ≤ u → 0 ≤ v
  eq : x = 0 → ∀ w, Calls Tryz.prog 12 #[.agg #[.int .i64 k, .string t, .string o, .string s, .bool b, .int .i64 c, .int .i64 r, .int .i64 q, .slice p n p0], .agg #[.int .i64 kz, .string tz, .string oz, .string sz, .bool bz, .int .i64 cz, .int .i64 rz, .int .i64 qz, .slice pz nz p0z]] w fun e w' => e = .returned (.bool true) ∧ Below w.heap.size w w'

set_option maxHeartbeats 8000000 in
set_option maxRecDepth 100000 in
theorem total_walk (k : Int) (t o s : ByteArray) (b : Bool) (c r q : Int) (p : Option Addr) (n p0 : Nat) (kz : Int) (tz oz sz : ByteArray) (bz : Bool) (cz rz qz : Int) (pz : Option Addr) (nz p0z : Nat) (km : Int) (tm om sm : ByteArray) (bm : Bool) (cm rm qm : Int) (pm : Option Addr) (nm p0m : Nat) (PA PB PC : Prop) (hA : Chk PA k t o s b c r q p n p0) (hB : Chk PB kz tz oz sz bz cz rz qz pz nz p0z) (hC : Chk PC km tm om sm bm cm rm qm pm nm p0m)
    (hL : PA → PB → PC → ∃ x u v, Law k t o s b c r q p n p0 kz tz oz sz bz cz rz qz pz nz p0z km tm om sm bm cm rm qm pm nm p0m x u v) (w : World) (hW : Wd w) (hIa : Itm w p n) (hIb : Itm w pz nz) (hIc : Itm w pm nm) :
    Calls Tryz.prog 4 #[.agg #[.int .i64 k, .string t, .string o, .string s, .bool b, .int .i64 c, .int .i64 r, .int .i64 q, .slice p n p0], .agg #[.int .i64 kz, .string tz, .string oz, .string sz, .bool bz, .int .i64 cz, .int .i64 rz, .int .i64 qz, .slice pz nz p0z], .agg #[.int .i64 km, .string tm, .string om, .string sm, .bool bm, .int .i64 cm, .int .i64 rm, .int .i64 qm, .slice pm nm p0m]] w fun x w' => x = .returned (.bool true) ∧ Below w.heap.size w w' := by
  have HW := Aside0.mk hW
  have IA := Aside0.mk hIa
  have IB := Aside0.mk hIb
  have IC := Aside0.mk hIc
  have HA := Aside0.mk hA
  have HB := Aside0.mk hB
  have HC := Aside0.mk hC
  have HL := Aside0.mk hL
  have GC := Aside0.mk values_c
  clear hW hIa hIb hIc hA hB hC hL
  go_enter Tryz.func4, Tryz.ntmps4
  go_upto_region 1 with (fail)
  obtain ⟨g, hg⟩ : ∃ g, g = w.heap.size := ⟨_, rfl⟩
  obtain ⟨g2, hg2⟩ : ∃ g2, g2 = w.heap.size + 1 := ⟨_, rfl⟩
  obtain ⟨g3, hg3⟩ : ∃ g3, g3 = w.heap.size + 1 + 1 := ⟨_, rfl⟩
  have K := Aside0.mk (show (((w.alloc (.cells #[.int .i64 k, .string t, .string o, .string s, .bool b, .int .i64 c, .int .i64 r, .int .i64 q, .slice p n p0] 33)).alloc (.cells #[.int .i64 kz, .string tz, .string oz, .string sz, .bool bz, .int .i64 cz, .int .i64 rz, .int .i64 qz, .slice pz nz p0z] 33)).alloc (.cells #[.int .i64 km, .string tm, .string om, .string sm, .bool bm, .int .i64 cm, .int .i64 rm, .int .i64 qm, .slice pm nm p0m] 33)).heap[g]? = some (.cells #[.int .i64 k, .string t, .string o, .string s, .bool b, .int .i64 c, .int .i64 r, .int .i64 q, .slice p n p0] 33 (0, 0)) from hg ▸ blk_alloc (blk_alloc (blk_new w _) _) _)
  have L := Aside0.mk (show (((w.alloc (.cells #[.int .i64 k, .string t, .string o, .string s, .bool b, .int .i64 c, .int .i64 r, .int .i64 q, .slice p n p0] 33)).alloc (.cells #[.int .i64 kz, .string tz, .string oz, .string sz, .bool bz, .int .i64 cz, .int .i64 rz, .int .i64 qz, .slice pz nz p0z] 33)).alloc (.cells #[.int .i64 km, .string tm, .string om, .string sm, .bool bm, .int .i64 cm, .int .i64 rm, .int .i64 qm, .slice pm nm p0m] 33)).heap[g2]? = some (.cells #[.int .i64 kz, .string tz, .string oz, .string sz, .bool bz, .int .i64 cz, .int .i64 rz, .int .i64 qz, .slice pz nz p0z] 33 (0, 0)) by have h := blk_new (w.alloc (.cells #[.int .i64 k, .string t, .string o, .string s, .bool b, .int .i64 c, .int .i64 r, .int .i64 q, .slice p n p0] 33)) (.cells #[.int .i64 kz, .string tz, .string oz, .string sz, .bool bz, .int .i64 cz, .int .i64 rz, .int .i64 qz, .slice pz nz p0z] 33); rw [World.size_alloc, ← hg2] at h; exact blk_alloc h _)
  have M := Aside0.mk (show (((w.alloc (.cells #[.int .i64 k, .string t, .string o, .string s, .bool b, .int .i64 c, .int .i64 r, .int .i64 q, .slice p n p0] 33)).alloc (.cells #[.int .i64 kz, .string tz, .string oz, .string sz, .bool bz, .int .i64 cz, .int .i64 rz, .int .i64 qz, .slice pz nz p0z] 33)).alloc (.cells #[.int .i64 km, .string tm, .string om, .string sm, .bool bm, .int .i64 cm, .int .i64 rm, .int .i64 qm, .slice pm nm p0m] 33)).heap[g3]? = some (.cells #[.int .i64 km, .string tm, .string om, .string sm, .bool bm, .int .i64 cm, .int .i64 rm, .int .i64 qm, .slice pm nm p0m] 33 (0, 0)) by have h := blk_new ((w.alloc (.cells #[.int .i64 k, .string t, .string o, .string s, .bool b, .int .i64 c, .int .i64 r, .int .i64 q, .slice p n p0] 33)).alloc (.cells #[.int .i64 kz, .string tz, .string oz, .string sz, .bool bz, .int .i64 cz, .int .i64 rz, .int .i64 qz, .slice pz nz p0z] 33)) (.cells #[.int .i64 km, .string tm, .string om, .string sm, .bool bm, .int .i64 cm, .int .i64 rm, .int .i64 qm, .slice pm nm p0m] 33); rw [World.size_alloc, World.size_alloc, ← hg3] at h; exact h)
  have B := Aside0.mk (show Below w.heap.size w (((w.alloc (.cells #[.int .i64 k, .string t, .string o, .string s, .bool b, .int .i64 c, .int .i64 r, .int .i64 q, .slice p n p0] 33)).alloc (.cells #[.int .i64 kz, .string tz, .string oz, .string sz, .bool bz, .int .i64 cz, .int .i64 rz, .int .i64 qz, .slice pz nz p0z] 33)).alloc (.cells #[.int .i64 km, .string tm, .string om, .string sm, .bool bm, .int .i64 cm, .int .i64 rm, .int .i64 qm, .slice pm nm p0m] 33)) from climb)
  obtain ⟨W, hW⟩ : ∃ W, W = (((w.alloc (.cells #[.int .i64 k, .string t, .string o, .string s, .bool b, .int .i64 c, .int .i64 r, .int .i64 q, .slice p n p0] 33)).alloc (.cells #[.int .i64 kz, .string tz, .string oz, .string sz, .bool bz, .int .i64 cz, .int .i64 rz, .int .i64 qz, .slice pz nz p0z] 33)).alloc (.cells #[.int .i64 km, .string tm, .string om, .string sm, .bool bm, .int .i64 cm, .int .i64 rm, .int .i64 qm, .slice pm nm p0m] 33)) := ⟨_, rfl⟩
  rw [← hW] at K L M B ⊢
  rw [← hg3, ← hg2, ← hg]
  clear hW hg hg2 hg3
  go_wp2_with (first | (go_at_call 6; (with_reducible refine (GC.out _ (HW.out.up (bl B.out)).gl (HW.out.up (bl B.out)).fs).mono ?_); rintro _ w1 ⟨rfl, hb1⟩; have B_ := Aside0.mk (below_step (bl B.out) hb1); have K_ := Aside0.mk (blk_below (blk_below K.out climb) hb1); have L_ := Aside0.mk (blk_below (blk_below L.out climb) hb1); have M_ := Aside0.mk (blk_below (blk_below M.out climb) hb1); clear B K L M hb1; have B := B_; have K := K_; have L := L_; have M := M_; clear B_ K_ L_ M_; obtain ⟨c0, c1, c2, c3, c4, c5, c6, c7, c8⟩ := val_cells K.out; obtain ⟨d0, d1, d2, d3, d4, d5, d6, d7, d8⟩ := val_cells L.out; obtain ⟨e0, e1, e2, e3, e4, e5, e6, e7, e8⟩ := val_cells M.out))
  go_loopg [23] 3 (fun kq v23 w' => ∃ (e : Nat), v23 = .int .i64 (e : Int) ∧ e + kq = 3 ∧ Aside0 ((1 ≤ e → PA) ∧ (2 ≤ e → PB) ∧ (3 ≤ e → PC)) ∧ Aside0 (w'.heap[g]? = some (.cells #[.int .i64 k, .string t, .string o, .string s, .bool b, .int .i64 c, .int .i64 r, .int .i64 q, .slice p n p0] 33 (0, 0))) ∧ Aside0 (w'.heap[g2]? = some (.cells #[.int .i64 kz, .string tz, .string oz, .string sz, .bool bz, .int .i64 cz, .int .i64 rz, .int .i64 qz, .slice pz nz p0z] 33 (0, 0))) ∧ Aside0 (w'.heap[g3]? = some (.cells #[.int .i64 km, .string tm, .string om, .string sm, .bool bm, .int .i64 cm, .int .i64 rm, .int .i64 qm, .slice pm nm p0m] 33 (0, 0))) ∧ Aside0 (Below w.heap.size w w'))
  case atStart => exact ⟨0, rfl, rfl, ⟨fun h => absurd h (by decide), fun h => absurd h (by decide), fun h => absurd h (by decide)⟩, ⟨blk_below K.out climb⟩, ⟨blk_below L.out climb⟩, ⟨blk_below M.out climb⟩, ⟨bl B.out⟩⟩
  case round =>
    clear K L M B c0 c1 c2 c3 c4 c5 c6 c7 c8 d0 d1 d2 d3 d4 d5 d6 d7 d8 e0 e1 e2 e3 e4 e5 e6 e7 e8
    obtain ⟨e, rfl, hk, HP, K, L, M, B⟩ := hrel
    have : e = 0 ∨ e = 1 ∨ e = 2 ∨ e = 3 := by omega
    rcases this with rfl | rfl | rfl | rfl
    · have hix := ix34_0 k t o s b c r q p n p0 kz tz oz sz bz cz rz qz pz nz p0z km tm om sm bm cm rm qm pm nm p0m
      go_upto_region 6 with (fail)
      have X := Aside0.mk (blk_new wr (.cells #[.int .i64 k, .string t, .string o, .string s, .bool b, .int .i64 c, .int .i64 r, .int .i64 q, .slice p n p0] 33))
      have U := Aside0.mk (show Below wr.heap.size wr (wr.alloc (.cells #[.int .i64 k, .string t, .string o, .string s, .bool b, .int .i64 c, .int .i64 r, .int .i64 q, .slice p n p0] 33)) from climb)
      obtain ⟨g4, hg4⟩ : ∃ g4, g4 = wr.heap.size := ⟨_, rfl⟩
      rw [← hg4] at X U
      obtain ⟨W3, hW3⟩ : ∃ W3, W3 = wr.alloc (.cells #[.int .i64 k, .string t, .string o, .string s, .bool b, .int .i64 c, .int .i64 r, .int .i64 q, .slice p n p0] 33) := ⟨_, rfl⟩
      rw [← hW3] at X U
      rw [← hg4, ← hW3]
      have B_ := Aside0.mk (below_step B.out (hg4 ▸ U.out))
      have K_ := Aside0.mk (blk_below K.out (hg4 ▸ U.out))
      have L_ := Aside0.mk (blk_below L.out (hg4 ▸ U.out))
      have M_ := Aside0.mk (blk_below M.out (hg4 ▸ U.out))
      clear B K L M U hW3 hg4 hix
      have B := B_
      have K := K_
      have L := L_
      have M := M_
      clear B_ K_ L_ M_
      rcases HA.out with ⟨hk5, hc⟩ | ⟨hk5, e1, hc, h0⟩
      · have CC := Aside0.mk hc
        obtain ⟨f0, f1, f2, f3, f4, f5, f6, f7, f8⟩ := val_cells X.out
        subst hk5
        clear hc
        go_wp2_with (first | (go_at_call 10; (with_reducible refine (CC.out _ (HW.out.up (bl B.out)) (IA.out.up (bl B.out))).mono ?_); rintro _ w1 ⟨⟨e1, rfl⟩, hb1⟩; have B_ := Aside0.mk (below_step (bl B.out) hb1); have X_ := Aside0.mk (blk_below (blk_below X.out climb) hb1); clear B X hb1 f0 f1 f2 f3 f4 f5 f6 f7 f8; have B := B_; have X := X_; clear B_ X_; obtain ⟨f0, f1, f2, f3, f4, f5, f6, f7, f8⟩ := val_cells X.out))
        all_goals
          go_ret
          exact ⟨rfl, bl B.out⟩
      · have CC := Aside0.mk hc
        obtain ⟨f0, f1, f2, f3, f4, f5, f6, f7, f8⟩ := val_cells X.out
        have hq5 : (k == 5) = false := beq_eq_false_iff_ne.2 hk5
        have H0 := Aside0.mk h0
        clear hc hk5 h0
        by_cases he : e1 = 0
        · subst he
          have PX := Aside0.mk (H0.out rfl)
          clear H0
          go_wp2_with (first | (go_at_call 10; (with_reducible refine (CC.out _ (HW.out.up (bl B.out))).mono ?_); rintro _ w1 ⟨rfl, hb1⟩; have B_ := Aside0.mk (below_step (bl B.out) hb1); have X_ := Aside0.mk (blk_below (blk_below X.out climb) hb1); have K_ := Aside0.mk (blk_below (blk_below K.out climb) hb1); have L_ := Aside0.mk (blk_below (blk_below L.out climb) hb1); have M_ := Aside0.mk (blk_below (blk_below M.out climb) hb1); clear B X K L M hb1 f0 f1 f2 f3 f4 f5 f6 f7 f8; have B := B_; have X := X_; have K := K_; have L := L_; have M := M_; clear B_ X_ K_ L_ M_; obtain ⟨f0, f1, f2, f3, f4, f5, f6, f7, f8⟩ := val_cells X.out))
          go_roundg (gk - 1)
          case measure => omega
          case rel => exact ⟨1, rfl, by omega, ⟨fun _ => PX.out, fun h => absurd h (by decide), fun h => absurd h (by decide)⟩, ⟨blk_below K.out climb⟩, ⟨blk_below L.out climb⟩, ⟨blk_below M.out climb⟩, ⟨bl B.out⟩⟩
        · have he1 : (e1 != 0) = true := bne_iff_ne.2 he
          clear he H0
          go_wp2_with (first | (go_at_call 10; (with_reducible refine (CC.out _ (HW.out.up (bl B.out))).mono ?_); rintro _ w1 ⟨rfl, hb1⟩; have B_ := Aside0.mk (below_step (bl B.out) hb1); have X_ := Aside0.mk (blk_below (blk_below X.out climb) hb1); clear B X hb1 f0 f1 f2 f3 f4 f5 f6 f7 f8; have B := B_; have X := X_; clear B_ X_; obtain ⟨f0, f1, f2, f3, f4, f5, f6, f7, f8⟩ := val_cells X.out))
          go_ret
          exact ⟨rfl, bl B.out⟩
    · have hix := ix34_1 k t o s b c r q p n p0 kz tz oz sz bz cz rz qz pz nz p0z km tm om sm bm cm rm qm pm nm p0m
      go_upto_region 6 with (fail)
      have X := Aside0.mk (blk_new wr (.cells #[.int .i64 kz, .string tz, .string oz, .string sz, .bool bz, .int .i64 cz, .int .i64 rz, .int .i64 qz, .slice pz nz p0z] 33))
      have U := Aside0.mk (show Below wr.heap.size wr (wr.alloc (.cells #[.int .i64 kz, .string tz, .string oz, .string sz, .bool bz, .int .i64 cz, .int .i64 rz, .int .i64 qz, .slice pz nz p0z] 33)) from climb)
      obtain ⟨g4, hg4⟩ : ∃ g4, g4 = wr.heap.size := ⟨_, rfl⟩
      rw [← hg4] at X U
      obtain ⟨W3, hW3⟩ : ∃ W3, W3 = wr.alloc (.cells #[.int .i64 kz, .string tz, .string oz, .string sz, .bool bz, .int .i64 cz, .int .i64 rz, .int .i64 qz, .slice pz nz p0z] 33) := ⟨_, rfl⟩
      rw [← hW3] at X U
      rw [← hg4, ← hW3]
      have B_ := Aside0.mk (below_step B.out (hg4 ▸ U.out))
      have K_ := Aside0.mk (blk_below K.out (hg4 ▸ U.out))
      have L_ := Aside0.mk (blk_below L.out (hg4 ▸ U.out))
      have M_ := Aside0.mk (blk_below M.out (hg4 ▸ U.out))
      clear B K L M U hW3 hg4 hix
      have B := B_
      have K := K_
      have L := L_
      have M := M_
      clear B_ K_ L_ M_
      rcases HB.out with ⟨hk5, hc⟩ | ⟨hk5, e1, hc, h0⟩
      · have CC := Aside0.mk hc
        obtain ⟨f0, f1, f2, f3, f4, f5, f6, f7, f8⟩ := val_cells X.out
        subst hk5
        clear hc
        go_wp2_with (first | (go_at_call 10; (with_reducible refine (CC.out _ (HW.out.up (bl B.out)) (IB.out.up (bl B.out))).mono ?_); rintro _ w1 ⟨⟨e1, rfl⟩, hb1⟩; have B_ := Aside0.mk (below_step (bl B.out) hb1); have X_ := Aside0.mk (blk_below (blk_below X.out climb) hb1); clear B X hb1 f0 f1 f2 f3 f4 f5 f6 f7 f8; have B := B_; have X := X_; clear B_ X_; obtain ⟨f0, f1, f2, f3, f4, f5, f6, f7, f8⟩ := val_cells X.out))
        all_goals
          go_ret
          exact ⟨rfl, bl B.out⟩
      · have CC := Aside0.mk hc
        obtain ⟨f0, f1, f2, f3, f4, f5, f6, f7, f8⟩ := val_cells X.out
        have hq5 : (kz == 5) = false := beq_eq_false_iff_ne.2 hk5
        have H0 := Aside0.mk h0
        clear hc hk5 h0
        by_cases he : e1 = 0
        · subst he
          have PX := Aside0.mk (H0.out rfl)
          clear H0
          go_wp2_with (first | (go_at_call 10; (with_reducible refine (CC.out _ (HW.out.up (bl B.out))).mono ?_); rintro _ w1 ⟨rfl, hb1⟩; have B_ := Aside0.mk (below_step (bl B.out) hb1); have X_ := Aside0.mk (blk_below (blk_below X.out climb) hb1); have K_ := Aside0.mk (blk_below (blk_below K.out climb) hb1); have L_ := Aside0.mk (blk_below (blk_below L.out climb) hb1); have M_ := Aside0.mk (blk_below (blk_below M.out climb) hb1); clear B X K L M hb1 f0 f1 f2 f3 f4 f5 f6 f7 f8; have B := B_; have X := X_; have K := K_; have L := L_; have M := M_; clear B_ X_ K_ L_ M_; obtain ⟨f0, f1, f2, f3, f4, f5, f6, f7, f8⟩ := val_cells X.out))
          go_roundg (gk - 1)
          case measure => omega
          case rel => exact ⟨2, rfl, by omega, ⟨fun _ => HP.out.1 (by decide), fun _ => PX.out, fun h => absurd h (by decide)⟩, ⟨blk_below K.out climb⟩, ⟨blk_below L.out climb⟩, ⟨blk_below M.out climb⟩, ⟨bl B.out⟩⟩
        · have he1 : (e1 != 0) = true := bne_iff_ne.2 he
          clear he H0
          go_wp2_with (first | (go_at_call 10; (with_reducible refine (CC.out _ (HW.out.up (bl B.out))).mono ?_); rintro _ w1 ⟨rfl, hb1⟩; have B_ := Aside0.mk (below_step (bl B.out) hb1); have X_ := Aside0.mk (blk_below (blk_below X.out climb) hb1); clear B X hb1 f0 f1 f2 f3 f4 f5 f6 f7 f8; have B := B_; have X := X_; clear B_ X_; obtain ⟨f0, f1, f2, f3, f4, f5, f6, f7, f8⟩ := val_cells X.out))
          go_ret
          exact ⟨rfl, bl B.out⟩
    · have hix := ix34_2 k t o s b c r q p n p0 kz tz oz sz bz cz rz qz pz nz p0z km tm om sm bm cm rm qm pm nm p0m
      go_upto_region 6 with (fail)
      have X := Aside0.mk (blk_new wr (.cells #[.int .i64 km, .string tm, .string om, .string sm, .bool bm, .int .i64 cm, .int .i64 rm, .int .i64 qm, .slice pm nm p0m] 33))
      have U := Aside0.mk (show Below wr.heap.size wr (wr.alloc (.cells #[.int .i64 km, .string tm, .string om, .string sm, .bool bm, .int .i64 cm, .int .i64 rm, .int .i64 qm, .slice pm nm p0m] 33)) from climb)
      obtain ⟨g4, hg4⟩ : ∃ g4, g4 = wr.heap.size := ⟨_, rfl⟩
      rw [← hg4] at X U
      obtain ⟨W3, hW3⟩ : ∃ W3, W3 = wr.alloc (.cells #[.int .i64 km, .string tm, .string om, .string sm, .bool bm, .int .i64 cm, .int .i64 rm, .int .i64 qm, .slice pm nm p0m] 33) := ⟨_, rfl⟩
      rw [← hW3] at X U
      rw [← hg4, ← hW3]
      have B_ := Aside0.mk (below_step B.out (hg4 ▸ U.out))
      have K_ := Aside0.mk (blk_below K.out (hg4 ▸ U.out))
      have L_ := Aside0.mk (blk_below L.out (hg4 ▸ U.out))
      have M_ := Aside0.mk (blk_below M.out (hg4 ▸ U.out))
      clear B K L M U hW3 hg4 hix
      have B := B_
      have K := K_
      have L := L_
      have M := M_
      clear B_ K_ L_ M_
      rcases HC.out with ⟨hk5, hc⟩ | ⟨hk5, e1, hc, h0⟩
      · have CC := Aside0.mk hc
        obtain ⟨f0, f1, f2, f3, f4, f5, f6, f7, f8⟩ := val_cells X.out
        subst hk5
        clear hc
        go_wp2_with (first | (go_at_call 10; (with_reducible refine (CC.out _ (HW.out.up (bl B.out)) (IC.out.up (bl B.out))).mono ?_); rintro _ w1 ⟨⟨e1, rfl⟩, hb1⟩; have B_ := Aside0.mk (below_step (bl B.out) hb1); have X_ := Aside0.mk (blk_below (blk_below X.out climb) hb1); clear B X hb1 f0 f1 f2 f3 f4 f5 f6 f7 f8; have B := B_; have X := X_; clear B_ X_; obtain ⟨f0, f1, f2, f3, f4, f5, f6, f7, f8⟩ := val_cells X.out))
        all_goals
          go_ret
          exact ⟨rfl, bl B.out⟩
      · have CC := Aside0.mk hc
        obtain ⟨f0, f1, f2, f3, f4, f5, f6, f7, f8⟩ := val_cells X.out
        have hq5 : (km == 5) = false := beq_eq_false_iff_ne.2 hk5
        have H0 := Aside0.mk h0
        clear hc hk5 h0
        by_cases he : e1 = 0
        · subst he
          have PX := Aside0.mk (H0.out rfl)
          clear H0
          go_wp2_with (first | (go_at_call 10; (with_reducible refine (CC.out _ (HW.out.up (bl B.out))).mono ?_); rintro _ w1 ⟨rfl, hb1⟩; have B_ := Aside0.mk (below_step (bl B.out) hb1); have X_ := Aside0.mk (blk_below (blk_below X.out climb) hb1); have K_ := Aside0.mk (blk_below (blk_below K.out climb) hb1); have L_ := Aside0.mk (blk_below (blk_below L.out climb) hb1); have M_ := Aside0.mk (blk_below (blk_below M.out climb) hb1); clear B X K L M hb1 f0 f1 f2 f3 f4 f5 f6 f7 f8; have B := B_; have X := X_; have K := K_; have L := L_; have M := M_; clear B_ X_ K_ L_ M_; obtain ⟨f0, f1, f2, f3, f4, f5, f6, f7, f8⟩ := val_cells X.out))
          go_roundg (gk - 1)
          case measure => omega
          case rel => exact ⟨3, rfl, by omega, ⟨fun _ => HP.out.1 (by decide), fun _ => HP.out.2.1 (by decide), fun _ => PX.out⟩, ⟨blk_below K.out climb⟩, ⟨blk_below L.out climb⟩, ⟨blk_below M.out climb⟩, ⟨bl B.out⟩⟩
        · have he1 : (e1 != 0) = true := bne_iff_ne.2 he
          clear he H0
          go_wp2_with (first | (go_at_call 10; (with_reducible refine (CC.out _ (HW.out.up (bl B.out))).mono ?_); rintro _ w1 ⟨rfl, hb1⟩; have B_ := Aside0.mk (below_step (bl B.out) hb1); have X_ := Aside0.mk (blk_below (blk_below X.out climb) hb1); clear B X hb1 f0 f1 f2 f3 f4 f5 f6 f7 f8; have B := B_; have X := X_; clear B_ X_; obtain ⟨f0, f1, f2, f3, f4, f5, f6, f7, f8⟩ := val_cells X.out))
          go_ret
          exact ⟨rfl, bl B.out⟩
    · obtain ⟨x, u, v, hlaw⟩ := HL.out (HP.out.1 (by decide)) (HP.out.2.1 (by decide)) (HP.out.2.2 (by decide))
      have OA := Aside0.mk hlaw.ab
      have OB := Aside0.mk hlaw.ba
      have OC := Aside0.mk hlaw.bc
      have OD := Aside0.mk hlaw.ac
      have EQ := Aside0.mk hlaw.eq
      have TX := Aside0.mk hlaw.tx
      have TU := Aside0.mk hlaw.tu
      have TV := Aside0.mk hlaw.tv
      have UP := Aside0.mk hlaw.up
      have DN := Aside0.mk hlaw.dn
      clear hlaw HL HP HA HB HC IA IB IC
      obtain ⟨c0, c1, c2, c3, c4, c5, c6, c7, c8⟩ := val_cells K.out
      obtain ⟨d0, d1, d2, d3, d4, d5, d6, d7, d8⟩ := val_cells L.out
      obtain ⟨e0, e1, e2, e3, e4, e5, e6, e7, e8⟩ := val_cells M.out
      obtain ⟨x', hx'⟩ : ∃ x', x' = -x := ⟨_, rfl⟩
      rw [← hx'] at OB
      have HX := Aside0.mk hx'
      clear hx'
      go_upto_region 13 with (first
        | (go_at_call 11; (with_reducible refine (OA.out _ (HW.out.up (bl B.out))).mono ?_); rintro _ w1 ⟨rfl, hb1⟩; have B_ := Aside0.mk (below_step (bl B.out) hb1); have K_ := Aside0.mk (blk_below (blk_below K.out climb) hb1); have L_ := Aside0.mk (blk_below (blk_below L.out climb) hb1); have M_ := Aside0.mk (blk_below (blk_below M.out climb) hb1); clear B K L M hb1 c0 c1 c2 c3 c4 c5 c6 c7 c8 d0 d1 d2 d3 d4 d5 d6 d7 d8 e0 e1 e2 e3 e4 e5 e6 e7 e8; have B := B_; have K := K_; have L := L_; have M := M_; clear B_ K_ L_ M_; obtain ⟨c0, c1, c2, c3, c4, c5, c6, c7, c8⟩ := val_cells K.out; obtain ⟨d0, d1, d2, d3, d4, d5, d6, d7, d8⟩ := val_cells L.out; obtain ⟨e0, e1, e2, e3, e4, e5, e6, e7, e8⟩ := val_cells M.out)
        | (go_at_call 11; (with_reducible refine (OB.out _ (HW.out.up (bl B.out))).mono ?_); rintro _ w1 ⟨rfl, hb1⟩; have B_ := Aside0.mk (below_step (bl B.out) hb1); have K_ := Aside0.mk (blk_below (blk_below K.out climb) hb1); have L_ := Aside0.mk (blk_below (blk_below L.out climb) hb1); have M_ := Aside0.mk (blk_below (blk_below M.out climb) hb1); clear B K L M hb1 c0 c1 c2 c3 c4 c5 c6 c7 c8 d0 d1 d2 d3 d4 d5 d6 d7 d8 e0 e1 e2 e3 e4 e5 e6 e7 e8; have B := B_; have K := K_; have L := L_; have M := M_; clear B_ K_ L_ M_; obtain ⟨c0, c1, c2, c3, c4, c5, c6, c7, c8⟩ := val_cells K.out; obtain ⟨d0, d1, d2, d3, d4, d5, d6, d7, d8⟩ := val_cells L.out; obtain ⟨e0, e1, e2, e3, e4, e5, e6, e7, e8⟩ := val_cells M.out)
        | (go_at_call 11; (with_reducible refine (OC.out _ (HW.out.up (bl B.out))).mono ?_); rintro _ w1 ⟨rfl, hb1⟩; have B_ := Aside0.mk (below_step (bl B.out) hb1); have K_ := Aside0.mk (blk_below (blk_below K.out climb) hb1); have L_ := Aside0.mk (blk_below (blk_below L.out climb) hb1); have M_ := Aside0.mk (blk_below (blk_below M.out climb) hb1); clear B K L M hb1 c0 c1 c2 c3 c4 c5 c6 c7 c8 d0 d1 d2 d3 d4 d5 d6 d7 d8 e0 e1 e2 e3 e4 e5 e6 e7 e8; have B := B_; have K := K_; have L := L_; have M := M_; clear B_ K_ L_ M_; obtain ⟨c0, c1, c2, c3, c4, c5, c6, c7, c8⟩ := val_cells K.out; obtain ⟨d0, d1, d2, d3, d4, d5, d6, d7, d8⟩ := val_cells L.out; obtain ⟨e0, e1, e2, e3, e4, e5, e6, e7, e8⟩ := val_cells M.out)
        | (go_at_call 11; (with_reducible refine (OD.out _ (HW.out.up (bl B.out))).mono ?_); rintro _ w1 ⟨rfl, hb1⟩; have B_ := Aside0.mk (below_step (bl B.out) hb1); have K_ := Aside0.mk (blk_below (blk_below K.out climb) hb1); have L_ := Aside0.mk (blk_below (blk_below L.out climb) hb1); have M_ := Aside0.mk (blk_below (blk_below M.out climb) hb1); clear B K L M hb1 c0 c1 c2 c3 c4 c5 c6 c7 c8 d0 d1 d2 d3 d4 d5 d6 d7 d8 e0 e1 e2 e3 e4 e5 e6 e7 e8; have B := B_; have K := K_; have L := L_; have M := M_; clear B_ K_ L_ M_; obtain ⟨c0, c1, c2, c3, c4, c5, c6, c7, c8⟩ := val_cells K.out; obtain ⟨d0, d1, d2, d3, d4, d5, d6, d7, d8⟩ := val_cells L.out; obtain ⟨e0, e1, e2, e3, e4, e5, e6, e7, e8⟩ := val_cells M.out))
      have hx := HX.out
      have up := UP.out
      have dn := DN.out
      clear OA OB OC OD HX UP DN
      rcases TX.out with rfl | rfl | rfl <;> rcases TU.out with rfl | rfl | rfl <;> rcases TV.out with rfl | rfl | rfl <;> first | (exfalso; have := up (by decide) (by decide); omega) | (exfalso; have := dn (by decide) (by decide); omega) | skip
      all_goals
        obtain rfl := hx
        clear up dn TX TU TV
        try (have EE := Aside0.mk (EQ.out rfl))
        clear EQ
        go_wp2_with (first | (go_at_call 12; (with_reducible refine (EE.out _).mono ?_); rintro _ w1 ⟨rfl, hb1⟩; have B_ := Aside0.mk (below_step (bl B.out) hb1); have K_ := Aside0.mk (blk_below (blk_below K.out climb) hb1); have L_ := Aside0.mk (blk_below (blk_below L.out climb) hb1); have M_ := Aside0.mk (blk_below (blk_below M.out climb) hb1); clear B K L M hb1 c0 c1 c2 c3 c4 c5 c6 c7 c8 d0 d1 d2 d3 d4 d5 d6 d7 d8 e0 e1 e2 e3 e4 e5 e6 e7 e8; have B := B_; have K := K_; have L := L_; have M := M_; clear B_ K_ L_ M_))
        go_ret
        exact ⟨rfl, bl B.out⟩
end Go.Proofs.YtckfdhnimmaeiaaGreatDoor.Pr
