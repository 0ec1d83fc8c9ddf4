/- value.decimal, shown, Show; ValueShownBack, walked (printed by wip/tools/mkgu.py). -/
import Derived.Test.YtckfdhnimmaeiaaGreatDoorGt
import Derived.Test.YtckfdhnimmaeiaaGreatDoorEh
import Derived.BigGuardPart
import Derived.Deep.RegionHeld3
namespace Go.Proofs.YtckfdhnimmaeiaaGreatDoor.Pr
open Go.RowKit Go.Proofs.YtckfdhnimmaeiaaGreatDoorW.PrintWords Go.Proofs.YtckfdhnimmaeiaaGreatDoorW.PrintLast Go.Proofs.YtckfdhnimmaeiaaGreatDoorW.PrintMore
set_option linter.unusedVariables false
set_option linter.unusedSimpArgs false
set_option maxHeartbeats 8000000 in
set_option maxRecDepth 100000 in
theorem decimal_fix_false (t o s0 f x1 x2 : ByteArray) (m : Nat) (hS : exact_Shortest.f m t o = some (s0, false, 0)) (hF : exact_Fixed.f m t o 12 = some (f, 0)) (h1 : ∀ w, Calls Tryz.prog 84 #[.string f, .string ⟨#[48]⟩] w fun e w' => e = .returned (.string x1) ∧ w' = w) (h2 : ∀ w, Calls Tryz.prog 83 #[.string x1, .string ⟨#[46]⟩] w fun e w' => e = .returned (.string x2) ∧ w' = w) (w : World) (hGl : Gl w) :
    Calls Tryz.prog 56 #[.agg #[.string t, .string o]] w fun x w' => x = .returned (.string x2) ∧ Below w.heap.size w w' := by
  have SC := Aside0.mk (fun w hGl => exact_Shortest.calls m t o s0 false 0 w hGl hS)
  have FC := Aside0.mk (show ∀ w, Gl w → Calls Tryz.prog 82 #[.agg #[.string t, .string o], .int .i64 12] w _ from fun w hGl => exact_Fixed.calls m t o 12 f 0 w hGl hF)
  have T1 := Aside0.mk h1
  have T2 := Aside0.mk h2
  have HG := Aside0.mk hGl
  clear hS hF h1 h2 hGl
  go_enter Tryz.func56, Tryz.ntmps56
  go_upto_region 1 with (fail)
  obtain ⟨g, hg⟩ : ∃ g, g = w.heap.size := ⟨_, rfl⟩
  have K := Aside0.mk (show (w.alloc (.cells #[.string t, .string o] 30)).heap[g]? = some (.cells #[.string t, .string o] 30 (0, 0)) from hg ▸ blk_new w _)
  have B := Aside0.mk (show Below w.heap.size w (w.alloc (.cells #[.string t, .string o] 30)) from climb)
  obtain ⟨W, hW⟩ : ∃ W, W = w.alloc (.cells #[.string t, .string o] 30) := ⟨_, rfl⟩
  rw [← hW] at K B ⊢
  rw [← hg]
  clear hW hg
  obtain ⟨c0, c1, _, _⟩ := fr_cells K.out
  go_wp2_with (first
    | (go_at_call 14; (with_reducible refine (SC.out _ (gl_below HG.out (bl B.out))).mono ?_); rintro _ w1 ⟨rfl, hb1⟩; have B_ := Aside0.mk (below_step (bl B.out) hb1); have K_ := Aside0.mk (blk_below (blk_below K.out climb) hb1); clear B K hb1 c0 c1; have B := B_; have K := K_; clear B_ K_; obtain ⟨c0, c1, _, _⟩ := fr_cells K.out)
    | (go_at_call 82; (with_reducible refine (FC.out _ (gl_below HG.out (bl B.out))).mono ?_); rintro _ w1 ⟨rfl, hb1⟩; have B_ := Aside0.mk (below_step (bl B.out) hb1); have K_ := Aside0.mk (blk_below (blk_below K.out climb) hb1); clear B K hb1 c0 c1; have B := B_; have K := K_; clear B_ K_; obtain ⟨c0, c1, _, _⟩ := fr_cells K.out)
    | (go_at_call 84; (with_reducible refine (T1.out _).mono ?_); rintro _ w1 ⟨rfl, rfl⟩)
    | (go_at_call 83; (with_reducible refine (T2.out _).mono ?_); rintro _ w1 ⟨rfl, rfl⟩))
  go_ret
  exact ⟨rfl, bl B.out⟩
set_option maxHeartbeats 8000000 in
set_option maxRecDepth 100000 in
theorem decimal_over_false (t o s0 f n : ByteArray) (m : Nat) (e : Int) (he : e ≠ 0) (hS : exact_Shortest.f m t o = some (s0, false, 0)) (hF : exact_Fixed.f m t o 12 = some (f, e)) (hn : faultsL[5]? = some n) (w : World) (hW : Wd w) :
    Calls Tryz.prog 56 #[.agg #[.string t, .string o]] w fun x w' => x = .returned (.string n) ∧ Below w.heap.size w w' := by
  have SC := Aside0.mk (fun w hGl => exact_Shortest.calls m t o s0 false 0 w hGl hS)
  have FC := Aside0.mk (show ∀ w, Gl w → Calls Tryz.prog 82 #[.agg #[.string t, .string o], .int .i64 12] w _ from fun w hGl => exact_Fixed.calls m t o 12 f e w hGl hF)
  have NC := Aside0.mk (show ∀ w, Fs w → Calls Tryz.prog 21 #[.int .i64 5] w _ from fun w hF => fault_at 5 n (by decide) hn w hF)
  have HW := Aside0.mk hW
  have q1 : (e != 0) = true := bne_iff_ne.2 he
  have q2 : (e == 0) = false := beq_eq_false_iff_ne.2 he
  clear hS hF hn hW he
  go_enter Tryz.func56, Tryz.ntmps56
  go_upto_region 1 with (fail)
  obtain ⟨g, hg⟩ : ∃ g, g = w.heap.size := ⟨_, rfl⟩
  have K := Aside0.mk (show (w.alloc (.cells #[.string t, .string o] 30)).heap[g]? = some (.cells #[.string t, .string o] 30 (0, 0)) from hg ▸ blk_new w _)
  have B := Aside0.mk (show Below w.heap.size w (w.alloc (.cells #[.string t, .string o] 30)) from climb)
  obtain ⟨W, hW⟩ : ∃ W, W = w.alloc (.cells #[.string t, .string o] 30) := ⟨_, rfl⟩
  rw [← hW] at K B ⊢
  rw [← hg]
  clear hW hg
  obtain ⟨c0, c1, _, _⟩ := fr_cells K.out
  go_wp2_with (first
    | (go_at_call 14; (with_reducible refine (SC.out _ (gl_below HW.out.gl (bl B.out))).mono ?_); rintro _ w1 ⟨rfl, hb1⟩; have B_ := Aside0.mk (below_step (bl B.out) hb1); have K_ := Aside0.mk (blk_below (blk_below K.out climb) hb1); clear B K hb1 c0 c1; have B := B_; have K := K_; clear B_ K_; obtain ⟨c0, c1, _, _⟩ := fr_cells K.out)
    | (go_at_call 82; (with_reducible refine (FC.out _ (gl_below HW.out.gl (bl B.out))).mono ?_); rintro _ w1 ⟨rfl, hb1⟩; have B_ := Aside0.mk (below_step (bl B.out) hb1); have K_ := Aside0.mk (blk_below (blk_below K.out climb) hb1); clear B K hb1 c0 c1; have B := B_; have K := K_; clear B_ K_; obtain ⟨c0, c1, _, _⟩ := fr_cells K.out)
    | (go_at_call 21; (with_reducible refine (NC.out _ (HW.out.fs.below (bl B.out))).mono ?_); rintro _ w1 ⟨rfl, hb1⟩; have B_ := Aside0.mk (below_step (bl B.out) hb1); have K_ := Aside0.mk (blk_below (blk_below K.out climb) hb1); clear B K hb1 c0 c1; have B := B_; have K := K_; clear B_ K_; obtain ⟨c0, c1, _, _⟩ := fr_cells K.out))
  go_ret
  exact ⟨rfl, bl B.out⟩
set_option maxHeartbeats 8000000 in
set_option maxRecDepth 100000 in
theorem decimal_fix_true (t o s0 f x1 x2 : ByteArray) (m : Nat) (hS : exact_Shortest.f m t o = some (s0, true, 0)) (h40 : 40 < s0.size) (hF : exact_Fixed.f m t o 12 = some (f, 0)) (h1 : ∀ w, Calls Tryz.prog 84 #[.string f, .string ⟨#[48]⟩] w fun e w' => e = .returned (.string x1) ∧ w' = w) (h2 : ∀ w, Calls Tryz.prog 83 #[.string x1, .string ⟨#[46]⟩] w fun e w' => e = .returned (.string x2) ∧ w' = w) (w : World) (hGl : Gl w) :
    Calls Tryz.prog 56 #[.agg #[.string t, .string o]] w fun x w' => x = .returned (.string x2) ∧ Below w.heap.size w w' := by
  have SC := Aside0.mk (fun w hGl => exact_Shortest.calls m t o s0 true 0 w hGl hS)
  have FC := Aside0.mk (show ∀ w, Gl w → Calls Tryz.prog 82 #[.agg #[.string t, .string o], .int .i64 12] w _ from fun w hGl => exact_Fixed.calls m t o 12 f 0 w hGl hF)
  have T1 := Aside0.mk h1
  have T2 := Aside0.mk h2
  have HG := Aside0.mk hGl
  have q40 : ¬ (s0.size : Int) ≤ 40 := by omega
  clear hS hF h1 h2 hGl
  go_enter Tryz.func56, Tryz.ntmps56
  go_upto_region 1 with (fail)
  obtain ⟨g, hg⟩ : ∃ g, g = w.heap.size := ⟨_, rfl⟩
  have K := Aside0.mk (show (w.alloc (.cells #[.string t, .string o] 30)).heap[g]? = some (.cells #[.string t, .string o] 30 (0, 0)) from hg ▸ blk_new w _)
  have B := Aside0.mk (show Below w.heap.size w (w.alloc (.cells #[.string t, .string o] 30)) from climb)
  obtain ⟨W, hW⟩ : ∃ W, W = w.alloc (.cells #[.string t, .string o] 30) := ⟨_, rfl⟩
  rw [← hW] at K B ⊢
  rw [← hg]
  clear hW hg
  obtain ⟨c0, c1, _, _⟩ := fr_cells K.out
  go_wp2_with (first
    | (go_at_call 14; (with_reducible refine (SC.out _ (gl_below HG.out (bl B.out))).mono ?_); rintro _ w1 ⟨rfl, hb1⟩; have B_ := Aside0.mk (below_step (bl B.out) hb1); have K_ := Aside0.mk (blk_below (blk_below K.out climb) hb1); clear B K hb1 c0 c1; have B := B_; have K := K_; clear B_ K_; obtain ⟨c0, c1, _, _⟩ := fr_cells K.out)
    | (go_at_call 82; (with_reducible refine (FC.out _ (gl_below HG.out (bl B.out))).mono ?_); rintro _ w1 ⟨rfl, hb1⟩; have B_ := Aside0.mk (below_step (bl B.out) hb1); have K_ := Aside0.mk (blk_below (blk_below K.out climb) hb1); clear B K hb1 c0 c1; have B := B_; have K := K_; clear B_ K_; obtain ⟨c0, c1, _, _⟩ := fr_cells K.out)
    | (go_at_call 84; (with_reducible refine (T1.out _).mono ?_); rintro _ w1 ⟨rfl, rfl⟩)
    | (go_at_call 83; (with_reducible refine (T2.out _).mono ?_); rintro _ w1 ⟨rfl, rfl⟩))
  go_ret
  exact ⟨rfl, bl B.out⟩
set_option maxHeartbeats 8000000 in
set_option maxRecDepth 100000 in
theorem decimal_over_true (t o s0 f n : ByteArray) (m : Nat) (e : Int) (he : e ≠ 0) (hS : exact_Shortest.f m t o = some (s0, true, 0)) (h40 : 40 < s0.size) (hF : exact_Fixed.f m t o 12 = some (f, e)) (hn : faultsL[5]? = some n) (w : World) (hW : Wd w) :
    Calls Tryz.prog 56 #[.agg #[.string t, .string o]] w fun x w' => x = .returned (.string n) ∧ Below w.heap.size w w' := by
  have SC := Aside0.mk (fun w hGl => exact_Shortest.calls m t o s0 true 0 w hGl hS)
  have FC := Aside0.mk (show ∀ w, Gl w → Calls Tryz.prog 82 #[.agg #[.string t, .string o], .int .i64 12] w _ from fun w hGl => exact_Fixed.calls m t o 12 f e w hGl hF)
  have NC := Aside0.mk (show ∀ w, Fs w → Calls Tryz.prog 21 #[.int .i64 5] w _ from fun w hF => fault_at 5 n (by decide) hn w hF)
  have HW := Aside0.mk hW
  have q1 : (e != 0) = true := bne_iff_ne.2 he
  have q2 : (e == 0) = false := beq_eq_false_iff_ne.2 he
  have q40 : ¬ (s0.size : Int) ≤ 40 := by omega
  clear hS hF hn hW he
  go_enter Tryz.func56, Tryz.ntmps56
  go_upto_region 1 with (fail)
  obtain ⟨g, hg⟩ : ∃ g, g = w.heap.size := ⟨_, rfl⟩
  have K := Aside0.mk (show (w.alloc (.cells #[.string t, .string o] 30)).heap[g]? = some (.cells #[.string t, .string o] 30 (0, 0)) from hg ▸ blk_new w _)
  have B := Aside0.mk (show Below w.heap.size w (w.alloc (.cells #[.string t, .string o] 30)) from climb)
  obtain ⟨W, hW⟩ : ∃ W, W = w.alloc (.cells #[.string t, .string o] 30) := ⟨_, rfl⟩
  rw [← hW] at K B ⊢
  rw [← hg]
  clear hW hg
  obtain ⟨c0, c1, _, _⟩ := fr_cells K.out
  go_wp2_with (first
    | (go_at_call 14; (with_reducible refine (SC.out _ (gl_below HW.out.gl (bl B.out))).mono ?_); rintro _ w1 ⟨rfl, hb1⟩; have B_ := Aside0.mk (below_step (bl B.out) hb1); have K_ := Aside0.mk (blk_below (blk_below K.out climb) hb1); clear B K hb1 c0 c1; have B := B_; have K := K_; clear B_ K_; obtain ⟨c0, c1, _, _⟩ := fr_cells K.out)
    | (go_at_call 82; (with_reducible refine (FC.out _ (gl_below HW.out.gl (bl B.out))).mono ?_); rintro _ w1 ⟨rfl, hb1⟩; have B_ := Aside0.mk (below_step (bl B.out) hb1); have K_ := Aside0.mk (blk_below (blk_below K.out climb) hb1); clear B K hb1 c0 c1; have B := B_; have K := K_; clear B_ K_; obtain ⟨c0, c1, _, _⟩ := fr_cells K.out)
    | (go_at_call 21; (with_reducible refine (NC.out _ (HW.out.fs.below (bl B.out))).mono ?_); rintro _ w1 ⟨rfl, hb1⟩; have B_ := Aside0.mk (below_step (bl B.out) hb1); have K_ := Aside0.mk (blk_below (blk_below K.out climb) hb1); clear B K hb1 c0 c1; have B := B_; have K := K_; clear B_ K_; obtain ⟨c0, c1, _, _⟩ := fr_cells K.out))
  go_ret
  exact ⟨rfl, bl B.out⟩
set_option maxHeartbeats 8000000 in
set_option maxRecDepth 100000 in
theorem shown_0 (t o s : ByteArray) (b : Bool) (c r q : Int) (p : Option Addr) (n p0 : Nat) (w : World) (hW : Wd w) : Calls Tryz.prog 30 #[.agg #[.int .i64 0, .string t, .string o, .string s, .bool b, .int .i64 c, .int .i64 r, .int .i64 q, .slice p n p0]] w fun e w' => e = .returned (.string ⟨#[]⟩) ∧ Below w.heap.size w w' := by
  have HW := Aside0.mk hW
  clear hW
  go_enter Tryz.func30, Tryz.ntmps30
  go_upto_region 1 with (fail)
  obtain ⟨g, W, hg, hW, K, B⟩ := box33 w (zv 0 t o s b c r q p n p0)
  rw [hW, hg]
  clear hW hg
  obtain ⟨c0, c1, c2, c3, c4, c5, c6, c7, c8⟩ := val_cells K.out
  go_wp2_with (fail)
  go_ret
  exact ⟨rfl, bl B.out⟩
set_option maxHeartbeats 8000000 in
set_option maxRecDepth 100000 in
theorem shown_1 (t o s : ByteArray) (b : Bool) (c r q : Int) (p : Option Addr) (n p0 : Nat) (x : ByteArray) (hD : ∀ w, Wd w → Calls Tryz.prog 56 #[.agg #[.string t, .string o]] w fun e w' => e = .returned (.string x) ∧ Below w.heap.size w w') (w : World) (hW : Wd w) : Calls Tryz.prog 30 #[.agg #[.int .i64 1, .string t, .string o, .string s, .bool b, .int .i64 c, .int .i64 r, .int .i64 q, .slice p n p0]] w fun e w' => e = .returned (.string x) ∧ Below w.heap.size w w' := by
  have HW := Aside0.mk hW
  clear hW
  have DC := Aside0.mk hD
  clear hD
  go_enter Tryz.func30, Tryz.ntmps30
  go_upto_region 1 with (fail)
  obtain ⟨g, W, hg, hW, K, B⟩ := box33 w (zv 1 t o s b c r q p n p0)
  rw [hW, hg]
  clear hW hg
  obtain ⟨c0, c1, c2, c3, c4, c5, c6, c7, c8⟩ := val_cells K.out
  go_wp2_with (first | (go_at_call 56; (with_reducible refine (DC.out _ (HW.out.up (bl B.out))).mono ?_); rintro _ w1 ⟨rfl, hb1⟩; have B_ := Aside0.mk (below_step (bl B.out) hb1); clear B  hb1; have B := B_; clear B_ ))
  go_ret
  exact ⟨rfl, bl B.out⟩
set_option maxHeartbeats 8000000 in
set_option maxRecDepth 100000 in
theorem shown_2 (t o s : ByteArray) (b : Bool) (c r q : Int) (p : Option Addr) (n p0 : Nat) (w : World) (hW : Wd w) : Calls Tryz.prog 30 #[.agg #[.int .i64 2, .string t, .string o, .string s, .bool b, .int .i64 c, .int .i64 r, .int .i64 q, .slice p n p0]] w fun e w' => e = .returned (.string s) ∧ Below w.heap.size w w' := by
  have HW := Aside0.mk hW
  clear hW
  go_enter Tryz.func30, Tryz.ntmps30
  go_upto_region 1 with (fail)
  obtain ⟨g, W, hg, hW, K, B⟩ := box33 w (zv 2 t o s b c r q p n p0)
  rw [hW, hg]
  clear hW hg
  obtain ⟨c0, c1, c2, c3, c4, c5, c6, c7, c8⟩ := val_cells K.out
  go_wp2_with (fail)
  go_ret
  exact ⟨rfl, bl B.out⟩
set_option maxHeartbeats 8000000 in
set_option maxRecDepth 100000 in
theorem shown_3t (t o s : ByteArray) (b : Bool) (c r q : Int) (p : Option Addr) (n p0 : Nat) (w : World) (hW : Wd w) : Calls Tryz.prog 30 #[.agg #[.int .i64 3, .string t, .string o, .string s, .bool true, .int .i64 c, .int .i64 r, .int .i64 q, .slice p n p0]] w fun e w' => e = .returned (.string ⟨#[84, 82, 85, 69]⟩) ∧ Below w.heap.size w w' := by
  have HW := Aside0.mk hW
  clear hW
  go_enter Tryz.func30, Tryz.ntmps30
  go_upto_region 1 with (fail)
  obtain ⟨g, W, hg, hW, K, B⟩ := box33 w (zv 3 t o s true c r q p n p0)
  rw [hW, hg]
  clear hW hg
  obtain ⟨c0, c1, c2, c3, c4, c5, c6, c7, c8⟩ := val_cells K.out
  go_wp2_with (fail)
  go_ret
  exact ⟨rfl, bl B.out⟩
set_option maxHeartbeats 8000000 in
set_option maxRecDepth 100000 in
theorem shown_3f (t o s : ByteArray) (b : Bool) (c r q : Int) (p : Option Addr) (n p0 : Nat) (w : World) (hW : Wd w) : Calls Tryz.prog 30 #[.agg #[.int .i64 3, .string t, .string o, .string s, .bool false, .int .i64 c, .int .i64 r, .int .i64 q, .slice p n p0]] w fun e w' => e = .returned (.string ⟨#[70, 65, 76, 83, 69]⟩) ∧ Below w.heap.size w w' := by
  have HW := Aside0.mk hW
  clear hW
  go_enter Tryz.func30, Tryz.ntmps30
  go_upto_region 1 with (fail)
  obtain ⟨g, W, hg, hW, K, B⟩ := box33 w (zv 3 t o s false c r q p n p0)
  rw [hW, hg]
  clear hW hg
  obtain ⟨c0, c1, c2, c3, c4, c5, c6, c7, c8⟩ := val_cells K.out
  go_wp2_with (fail)
  go_ret
  exact ⟨rfl, bl B.out⟩
set_option maxHeartbeats 8000000 in
set_option maxRecDepth 100000 in
theorem shown_4 (t o s : ByteArray) (b : Bool) (c r q : Int) (p : Option Addr) (n p0 : Nat) (x : ByteArray) (hD : ∀ w, Fs w → Calls Tryz.prog 21 #[.int .i64 c] w fun e w' => e = .returned (.string x) ∧ Below w.heap.size w w') (w : World) (hW : Wd w) : Calls Tryz.prog 30 #[.agg #[.int .i64 4, .string t, .string o, .string s, .bool b, .int .i64 c, .int .i64 r, .int .i64 q, .slice p n p0]] w fun e w' => e = .returned (.string x) ∧ Below w.heap.size w w' := by
  have HW := Aside0.mk hW
  clear hW
  have DC := Aside0.mk hD
  clear hD
  go_enter Tryz.func30, Tryz.ntmps30
  go_upto_region 1 with (fail)
  obtain ⟨g, W, hg, hW, K, B⟩ := box33 w (zv 4 t o s b c r q p n p0)
  rw [hW, hg]
  clear hW hg
  obtain ⟨c0, c1, c2, c3, c4, c5, c6, c7, c8⟩ := val_cells K.out
  go_wp2_with (first | (go_at_call 21; (with_reducible refine (DC.out _ (HW.out.fs.below (bl B.out))).mono ?_); rintro _ w1 ⟨rfl, hb1⟩; have B_ := Aside0.mk (below_step (bl B.out) hb1); clear B  hb1; have B := B_; clear B_ ))
  go_ret
  exact ⟨rfl, bl B.out⟩
set_option maxHeartbeats 8000000 in
set_option maxRecDepth 100000 in
theorem show_gen (k : Int) (t o s : ByteArray) (b : Bool) (c r q : Int) (p : Option Addr) (n p0 : Nat) (x : ByteArray) (hC : ∀ w, Wd w → Calls Tryz.prog 10 #[.agg #[.int .i64 k, .string t, .string o, .string s, .bool b, .int .i64 c, .int .i64 r, .int .i64 q, .slice p n p0]] w fun x w' => x = .returned (.int .i64 0) ∧ Below w.heap.size w w') (hD : ∀ w, Wd w → Calls Tryz.prog 30 #[.agg #[.int .i64 k, .string t, .string o, .string s, .bool b, .int .i64 c, .int .i64 r, .int .i64 q, .slice p n p0]] w fun e w' => e = .returned (.string x) ∧ Below w.heap.size w w') (w : World) (hW : Wd w) :
    Calls Tryz.prog 13 #[.agg #[.int .i64 k, .string t, .string o, .string s, .bool b, .int .i64 c, .int .i64 r, .int .i64 q, .slice p n p0]] w fun e w' => e = .returned (.tuple #[.string x, .int .i64 0]) ∧ Below w.heap.size w w' := by
  have CC := Aside0.mk hC
  have DC := Aside0.mk hD
  have HW := Aside0.mk hW
  clear hC hD hW
  go_enter Tryz.func13, Tryz.ntmps13
  go_upto_region 1 with (fail)
  obtain ⟨g, W, hg, hW, K, B⟩ := box33 w (zv k t o s b c r q p n p0)
  rw [hW, hg]
  clear hW hg
  obtain ⟨c0, c1, c2, c3, c4, c5, c6, c7, c8⟩ := val_cells K.out
  go_wp2_with (first | (go_at_call 10; (with_reducible refine (CC.out _ (HW.out.up (bl B.out))).mono ?_); rintro _ w1 ⟨rfl, hb1⟩; have B_ := Aside0.mk (below_step (bl B.out) hb1); have K_ := Aside0.mk (blk_below (blk_below K.out climb) hb1); clear B K hb1 c0 c1 c2 c3 c4 c5 c6 c7 c8; have B := B_; have K := K_; clear B_ K_; obtain ⟨c0, c1, c2, c3, c4, c5, c6, c7, c8⟩ := val_cells K.out) | (go_at_call 30; (with_reducible refine (DC.out _ (HW.out.up (bl B.out))).mono ?_); rintro _ w1 ⟨rfl, hb1⟩; have B_ := Aside0.mk (below_step (bl B.out) hb1); have K_ := Aside0.mk (blk_below (blk_below K.out climb) hb1); clear B K hb1 c0 c1 c2 c3 c4 c5 c6 c7 c8; have B := B_; have K := K_; clear B_ K_; obtain ⟨c0, c1, c2, c3, c4, c5, c6, c7, c8⟩ := val_cells K.out))
  go_ret2
  exact ⟨rfl, bl B.out⟩
set_option maxHeartbeats 8000000 in
set_option maxRecDepth 100000 in
theorem back_early (k : Int) (t o s : ByteArray) (b : Bool) (c r q : Int) (p : Option Addr) (n p0 : Nat) (e : Int) (he : e ≠ 0) (hC : ∀ w, Wd w → Calls Tryz.prog 10 #[.agg #[.int .i64 k, .string t, .string o, .string s, .bool b, .int .i64 c, .int .i64 r, .int .i64 q, .slice p n p0]] w fun x w' => x = .returned (.int .i64 e) ∧ Below w.heap.size w w') (w : World) (hW : Wd w) :
    Calls Tryz.prog 5 #[.agg #[.int .i64 k, .string t, .string o, .string s, .bool b, .int .i64 c, .int .i64 r, .int .i64 q, .slice p n p0]] w fun x w' => x = .returned (.bool true) ∧ Below w.heap.size w w' := by
  have GC := Aside0.mk values_c
  have HW := Aside0.mk hW
  have CC := Aside0.mk hC
  have q1 : (e != 0) = true := bne_iff_ne.2 he
  have q2 : (e == 0) = false := beq_eq_false_iff_ne.2 he
  clear hW hC he
  go_enter Tryz.func5, Tryz.ntmps5
  go_upto_region 1 with (fail)
  obtain ⟨g, W, hg, hW, K, B⟩ := box33 w (zv k t o s b c r q p n p0)
  rw [hW, hg]
  clear hW hg
  obtain ⟨c0, c1, c2, c3, c4, c5, c6, c7, c8⟩ := val_cells K.out
  go_wp2_with (first | (go_at_call 6; (with_reducible refine (GC.out _ (HW.out.up (bl B.out)).gl (HW.out.up (bl B.out)).fs).mono ?_); rintro _ w1 ⟨rfl, hb1⟩; have B_ := Aside0.mk (below_step (bl B.out) hb1); have K_ := Aside0.mk (blk_below (blk_below K.out climb) hb1); clear B K hb1 c0 c1 c2 c3 c4 c5 c6 c7 c8; have B := B_; have K := K_; clear B_ K_; obtain ⟨c0, c1, c2, c3, c4, c5, c6, c7, c8⟩ := val_cells K.out) | (go_at_call 10; (with_reducible refine (CC.out _ (HW.out.up (bl B.out))).mono ?_); rintro _ w1 ⟨rfl, hb1⟩; have B_ := Aside0.mk (below_step (bl B.out) hb1); have K_ := Aside0.mk (blk_below (blk_below K.out climb) hb1); clear B K hb1 c0 c1 c2 c3 c4 c5 c6 c7 c8; have B := B_; have K := K_; clear B_ K_; obtain ⟨c0, c1, c2, c3, c4, c5, c6, c7, c8⟩ := val_cells K.out))
  go_ret
  exact ⟨rfl, bl B.out⟩
set_option maxHeartbeats 8000000 in
set_option maxRecDepth 100000 in
theorem back_arr (t o s : ByteArray) (b : Bool) (c r q : Int) (p : Option Addr) (n p0 : Nat) (hC : ∀ w, Wd w → Itm w p n → Calls Tryz.prog 10 #[.agg #[.int .i64 5, .string t, .string o, .string s, .bool b, .int .i64 c, .int .i64 r, .int .i64 q, .slice p n p0]] w fun x w' => SomeI x ∧ Below w.heap.size w w') (w : World) (hW : Wd w) (hI : Itm w p n) :
    Calls Tryz.prog 5 #[.agg #[.int .i64 5, .string t, .string o, .string s, .bool b, .int .i64 c, .int .i64 r, .int .i64 q, .slice p n p0]] w fun x w' => x = .returned (.bool true) ∧ Below w.heap.size w w' := by
  have GC := Aside0.mk values_c
  have HW := Aside0.mk hW
  have CC := Aside0.mk hC
  have HI := Aside0.mk hI
  clear hW hC hI
  go_enter Tryz.func5, Tryz.ntmps5
  go_upto_region 1 with (fail)
  obtain ⟨g, W, hg, hW, K, B⟩ := box33 w (zv 5 t o s b c r q p n p0)
  rw [hW, hg]
  clear hW hg
  obtain ⟨c0, c1, c2, c3, c4, c5, c6, c7, c8⟩ := val_cells K.out
  go_wp2_with (first | (go_at_call 6; (with_reducible refine (GC.out _ (HW.out.up (bl B.out)).gl (HW.out.up (bl B.out)).fs).mono ?_); rintro _ w1 ⟨rfl, hb1⟩; have B_ := Aside0.mk (below_step (bl B.out) hb1); have K_ := Aside0.mk (blk_below (blk_below K.out climb) hb1); clear B K hb1 c0 c1 c2 c3 c4 c5 c6 c7 c8; have B := B_; have K := K_; clear B_ K_; obtain ⟨c0, c1, c2, c3, c4, c5, c6, c7, c8⟩ := val_cells K.out) | (go_at_call 10; (with_reducible refine (CC.out _ (HW.out.up (bl B.out)) (HI.out.up (bl B.out))).mono ?_); rintro _ w1 ⟨⟨e1, rfl⟩, hb1⟩; have B_ := Aside0.mk (below_step (bl B.out) hb1); have K_ := Aside0.mk (blk_below (blk_below K.out climb) hb1); clear B K hb1 c0 c1 c2 c3 c4 c5 c6 c7 c8; have B := B_; have K := K_; clear B_ K_; obtain ⟨c0, c1, c2, c3, c4, c5, c6, c7, c8⟩ := val_cells K.out))
  all_goals
    go_ret
    exact ⟨rfl, bl B.out⟩
set_option maxHeartbeats 8000000 in
set_option maxRecDepth 100000 in
theorem back_rest (k : Int) (t o s : ByteArray) (b : Bool) (c r q : Int) (p : Option Addr) (p0 : Nat) (S : ByteArray) (h1 : k ≠ 1) (h2 : k ≠ 2) (h5 : k ≠ 5) (hC : ∀ w, Wd w → Calls Tryz.prog 10 #[.agg #[.int .i64 k, .string t, .string o, .string s, .bool b, .int .i64 c, .int .i64 r, .int .i64 q, .slice p 0 p0]] w fun x w' => x = .returned (.int .i64 0) ∧ Below w.heap.size w w') (hD : ∀ w, Wd w → Calls Tryz.prog 13 #[.agg #[.int .i64 k, .string t, .string o, .string s, .bool b, .int .i64 c, .int .i64 r, .int .i64 q, .slice p 0 p0]] w fun e w' => e = .returned (.tuple #[.string S, .int .i64 0]) ∧ Below w.heap.size w w') (hE : ∀ w, Wd w → Calls Tryz.prog 15 #[.string S] w fun x w' => x = .returned (.agg #[.int .i64 k, .string t, .string o, .string s, .bool b, .int .i64 c, .int .i64 r, .int .i64 q, .slice none 0 0]) ∧ Below w.heap.size w w') (w : World) (hW : Wd w) :
    Calls Tryz.prog 5 #[.agg #[.int .i64 k, .string t, .string o, .string s, .bool b, .int .i64 c, .int .i64 r, .int .i64 q, .slice p 0 p0]] w fun x w' => x = .returned (.bool true) ∧ Below w.heap.size w w' := by
  have GC := Aside0.mk values_c
  have HW := Aside0.mk hW
  have CC := Aside0.mk hC
  have DC := Aside0.mk hD
  have EC := Aside0.mk hE
  have MC := Aside0.mk (fun w => same_calls k t o s b c r q none 0 p p0 w)
  have q1 : (k == 1) = false := beq_eq_false_iff_ne.2 h1
  have q2 : (k == 2) = false := beq_eq_false_iff_ne.2 h2
  have q5 : (k == 5) = false := beq_eq_false_iff_ne.2 h5
  clear hW hC hD hE h1 h2 h5
  go_enter Tryz.func5, Tryz.ntmps5
  go_upto_region 1 with (fail)
  obtain ⟨g, W, hg, hW, K, B⟩ := box33 w (zv k t o s b c r q p 0 p0)
  rw [hW, hg]
  clear hW hg
  obtain ⟨c0, c1, c2, c3, c4, c5, c6, c7, c8⟩ := val_cells K.out
  go_upto_region 17 with (first | (go_at_call 6; (with_reducible refine (GC.out _ (HW.out.up (bl B.out)).gl (HW.out.up (bl B.out)).fs).mono ?_); rintro _ w1 ⟨rfl, hb1⟩; have B_ := Aside0.mk (below_step (bl B.out) hb1); have K_ := Aside0.mk (blk_below (blk_below K.out climb) hb1); clear B K hb1 c0 c1 c2 c3 c4 c5 c6 c7 c8; have B := B_; have K := K_; clear B_ K_; obtain ⟨c0, c1, c2, c3, c4, c5, c6, c7, c8⟩ := val_cells K.out) | (go_at_call 10; (with_reducible refine (CC.out _ (HW.out.up (bl B.out))).mono ?_); rintro _ w1 ⟨rfl, hb1⟩; have B_ := Aside0.mk (below_step (bl B.out) hb1); have K_ := Aside0.mk (blk_below (blk_below K.out climb) hb1); clear B K hb1 c0 c1 c2 c3 c4 c5 c6 c7 c8; have B := B_; have K := K_; clear B_ K_; obtain ⟨c0, c1, c2, c3, c4, c5, c6, c7, c8⟩ := val_cells K.out) | (go_at_call 13; (with_reducible refine (DC.out _ (HW.out.up (bl B.out))).mono ?_); rintro _ w1 ⟨rfl, hb1⟩; have B_ := Aside0.mk (below_step (bl B.out) hb1); have K_ := Aside0.mk (blk_below (blk_below K.out climb) hb1); clear B K hb1 c0 c1 c2 c3 c4 c5 c6 c7 c8; have B := B_; have K := K_; clear B_ K_; obtain ⟨c0, c1, c2, c3, c4, c5, c6, c7, c8⟩ := val_cells K.out))
  obtain ⟨W, hW⟩ : ∃ W, W = w1 := ⟨_, rfl⟩
  rw [← hW] at K B ⊢
  have HWW := Aside0.mk (HW.out.up (bl B.out))
  clear hW
  have C := Aside0.mk (Below.refl W.heap.size W)
  have L0 := Aside0.mk (fun w' (h : Below W.heap.size W w') => (show w'.cell? ⟨g, 0, none⟩ = some (.int .i64 k) ∧ w'.cell? ⟨g, 1, none⟩ = some (.string t) ∧ w'.cell? ⟨g, 2, none⟩ = some (.string o) ∧ w'.cell? ⟨g, 3, none⟩ = some (.string s) ∧ w'.cell? ⟨g, 4, none⟩ = some (.bool b) ∧ w'.cell? ⟨g, 5, none⟩ = some (.int .i64 c) ∧ w'.cell? ⟨g, 6, none⟩ = some (.int .i64 r) ∧ w'.cell? ⟨g, 7, none⟩ = some (.int .i64 q) ∧ w'.cell? ⟨g, 8, none⟩ = some (.slice p 0 p0) from by obtain ⟨c0, c1, c2, c3, c4, c5, c6, c7, c8⟩ := val_cells (blk_below K.out h); exact ⟨c0, c1, c2, c3, c4, c5, c6, c7, c8⟩))
  clear c0 c1 c2 c3 c4 c5 c6 c7 c8
  go_region_held3 (fun w' => w'.cell? ⟨g, 0, none⟩ = some (.int .i64 k) ∧ w'.cell? ⟨g, 1, none⟩ = some (.string t) ∧ w'.cell? ⟨g, 2, none⟩ = some (.string o) ∧ w'.cell? ⟨g, 3, none⟩ = some (.string s) ∧ w'.cell? ⟨g, 4, none⟩ = some (.bool b) ∧ w'.cell? ⟨g, 5, none⟩ = some (.int .i64 c) ∧ w'.cell? ⟨g, 6, none⟩ = some (.int .i64 r) ∧ w'.cell? ⟨g, 7, none⟩ = some (.int .i64 q) ∧ w'.cell? ⟨g, 8, none⟩ = some (.slice p 0 p0)) (first | exact L0.out _ C.out | exact L0.out _ (bl C.out) | exact L0.out _ climb) (first | (go_at_call 15; (with_reducible refine (EC.out _ ?_).mono ?_); (first | exact HWW.out.up C.out | exact HWW.out.up (bl C.out) | exact HWW.out.up climb); rintro _ w1 ⟨rfl, hb1⟩; have C_ := Aside0.mk (below_step (bl C.out) hb1); clear C hb1; have C := C_; clear C_) | (go_at_call 12; (with_reducible refine (MC.out _).mono ?_); rintro _ w1 ⟨rfl, hb1⟩; have C_ := Aside0.mk (below_step (bl C.out) hb1); clear C hb1; have C := C_; clear C_))
  all_goals
    try go_wp2
    go_ret
    exact ⟨rfl, below_step (bl B.out) (bl C.out)⟩
set_option maxHeartbeats 8000000 in
set_option maxRecDepth 100000 in
theorem back_text (t o s : ByteArray) (b : Bool) (c r q : Int) (p : Option Addr) (p0 : Nat) (hs : s.size ≠ 32767) (hs2 : s.size ≤ 32767) (S' : ByteArray) (hS' : (⟨#[39]⟩ : ByteArray) ++ s = S') (hC : ∀ w, Wd w → Calls Tryz.prog 10 #[.agg #[.int .i64 2, .string t, .string o, .string s, .bool b, .int .i64 c, .int .i64 r, .int .i64 q, .slice p 0 p0]] w fun x w' => x = .returned (.int .i64 0) ∧ Below w.heap.size w w') (hD : ∀ w, Wd w → Calls Tryz.prog 13 #[.agg #[.int .i64 2, .string t, .string o, .string s, .bool b, .int .i64 c, .int .i64 r, .int .i64 q, .slice p 0 p0]] w fun e w' => e = .returned (.tuple #[.string s, .int .i64 0]) ∧ Below w.heap.size w w') (hE : ∀ w, Wd w → Calls Tryz.prog 15 #[.string S'] w fun x w' => x = .returned (.agg #[.int .i64 2, .string t, .string o, .string s, .bool b, .int .i64 c, .int .i64 r, .int .i64 q, .slice none 0 0]) ∧ Below w.heap.size w w') (w : World) (hW : Wd w) :
    Calls Tryz.prog 5 #[.agg #[.int .i64 2, .string t, .string o, .string s, .bool b, .int .i64 c, .int .i64 r, .int .i64 q, .slice p 0 p0]] w fun x w' => x = .returned (.bool true) ∧ Below w.heap.size w w' := by
  have GC := Aside0.mk values_c
  have HW := Aside0.mk hW
  have CC := Aside0.mk hC
  have DC := Aside0.mk hD
  have EC := Aside0.mk hE
  have MC := Aside0.mk (fun w => same_calls 2 t o s b c r q none 0 p p0 w)
  have q1 : ((s.size : Int) == 32767) = false := beq_eq_false_iff_ne.2 (by omega)
  have hcat : ¬ 9223372036854775807 < 1 + s.size := by omega
  clear hW hC hD hE hs
  go_enter Tryz.func5, Tryz.ntmps5
  go_upto_region 1 with (fail)
  obtain ⟨g, W, hg, hW, K, B⟩ := box33 w (zv 2 t o s b c r q p 0 p0)
  rw [hW, hg]
  clear hW hg
  obtain ⟨c0, c1, c2, c3, c4, c5, c6, c7, c8⟩ := val_cells K.out
  go_upto_region 17 with (first | (go_at_call 6; (with_reducible refine (GC.out _ (HW.out.up (bl B.out)).gl (HW.out.up (bl B.out)).fs).mono ?_); rintro _ w1 ⟨rfl, hb1⟩; have B_ := Aside0.mk (below_step (bl B.out) hb1); have K_ := Aside0.mk (blk_below (blk_below K.out climb) hb1); clear B K hb1 c0 c1 c2 c3 c4 c5 c6 c7 c8; have B := B_; have K := K_; clear B_ K_; obtain ⟨c0, c1, c2, c3, c4, c5, c6, c7, c8⟩ := val_cells K.out) | (go_at_call 10; (with_reducible refine (CC.out _ (HW.out.up (bl B.out))).mono ?_); rintro _ w1 ⟨rfl, hb1⟩; have B_ := Aside0.mk (below_step (bl B.out) hb1); have K_ := Aside0.mk (blk_below (blk_below K.out climb) hb1); clear B K hb1 c0 c1 c2 c3 c4 c5 c6 c7 c8; have B := B_; have K := K_; clear B_ K_; obtain ⟨c0, c1, c2, c3, c4, c5, c6, c7, c8⟩ := val_cells K.out) | (go_at_call 13; (with_reducible refine (DC.out _ (HW.out.up (bl B.out))).mono ?_); rintro _ w1 ⟨rfl, hb1⟩; have B_ := Aside0.mk (below_step (bl B.out) hb1); have K_ := Aside0.mk (blk_below (blk_below K.out climb) hb1); clear B K hb1 c0 c1 c2 c3 c4 c5 c6 c7 c8; have B := B_; have K := K_; clear B_ K_; obtain ⟨c0, c1, c2, c3, c4, c5, c6, c7, c8⟩ := val_cells K.out))
  obtain ⟨W, hW⟩ : ∃ W, W = w1 := ⟨_, rfl⟩
  rw [← hW] at K B ⊢
  have HWW := Aside0.mk (HW.out.up (bl B.out))
  clear hW
  have C := Aside0.mk (Below.refl W.heap.size W)
  have L0 := Aside0.mk (fun w' (h : Below W.heap.size W w') => (show w'.cell? ⟨g, 0, none⟩ = some (.int .i64 2) ∧ w'.cell? ⟨g, 1, none⟩ = some (.string t) ∧ w'.cell? ⟨g, 2, none⟩ = some (.string o) ∧ w'.cell? ⟨g, 3, none⟩ = some (.string s) ∧ w'.cell? ⟨g, 4, none⟩ = some (.bool b) ∧ w'.cell? ⟨g, 5, none⟩ = some (.int .i64 c) ∧ w'.cell? ⟨g, 6, none⟩ = some (.int .i64 r) ∧ w'.cell? ⟨g, 7, none⟩ = some (.int .i64 q) ∧ w'.cell? ⟨g, 8, none⟩ = some (.slice p 0 p0) from by obtain ⟨c0, c1, c2, c3, c4, c5, c6, c7, c8⟩ := val_cells (blk_below K.out h); exact ⟨c0, c1, c2, c3, c4, c5, c6, c7, c8⟩))
  clear c0 c1 c2 c3 c4 c5 c6 c7 c8
  go_region_held3 (fun w' => w'.cell? ⟨g, 0, none⟩ = some (.int .i64 2) ∧ w'.cell? ⟨g, 1, none⟩ = some (.string t) ∧ w'.cell? ⟨g, 2, none⟩ = some (.string o) ∧ w'.cell? ⟨g, 3, none⟩ = some (.string s) ∧ w'.cell? ⟨g, 4, none⟩ = some (.bool b) ∧ w'.cell? ⟨g, 5, none⟩ = some (.int .i64 c) ∧ w'.cell? ⟨g, 6, none⟩ = some (.int .i64 r) ∧ w'.cell? ⟨g, 7, none⟩ = some (.int .i64 q) ∧ w'.cell? ⟨g, 8, none⟩ = some (.slice p 0 p0)) (first | exact L0.out _ C.out | exact L0.out _ (bl C.out) | exact L0.out _ climb) (first | (go_at_call 15; (with_reducible refine (EC.out _ ?_).mono ?_); (first | exact HWW.out.up C.out | exact HWW.out.up (bl C.out) | exact HWW.out.up climb); rintro _ w1 ⟨rfl, hb1⟩; have C_ := Aside0.mk (below_step (bl C.out) hb1); clear C hb1; have C := C_; clear C_) | (go_at_call 12; (with_reducible refine (MC.out _).mono ?_); rintro _ w1 ⟨rfl, hb1⟩; have C_ := Aside0.mk (below_step (bl C.out) hb1); clear C hb1; have C := C_; clear C_))
  all_goals
    try go_wp2
    go_ret
    exact ⟨rfl, below_step (bl B.out) (bl C.out)⟩
set_option maxHeartbeats 8000000 in
set_option maxRecDepth 100000 in
theorem back_long (t o s : ByteArray) (b : Bool) (c r q : Int) (p : Option Addr) (p0 : Nat) (hs : s.size = 32767) (hC : ∀ w, Wd w → Calls Tryz.prog 10 #[.agg #[.int .i64 2, .string t, .string o, .string s, .bool b, .int .i64 c, .int .i64 r, .int .i64 q, .slice p 0 p0]] w fun x w' => x = .returned (.int .i64 0) ∧ Below w.heap.size w w') (hD : ∀ w, Wd w → Calls Tryz.prog 13 #[.agg #[.int .i64 2, .string t, .string o, .string s, .bool b, .int .i64 c, .int .i64 r, .int .i64 q, .slice p 0 p0]] w fun e w' => e = .returned (.tuple #[.string s, .int .i64 0]) ∧ Below w.heap.size w w') (w : World) (hW : Wd w) :
    Calls Tryz.prog 5 #[.agg #[.int .i64 2, .string t, .string o, .string s, .bool b, .int .i64 c, .int .i64 r, .int .i64 q, .slice p 0 p0]] w fun x w' => x = .returned (.bool true) ∧ Below w.heap.size w w' := by
  have GC := Aside0.mk values_c
  have HW := Aside0.mk hW
  have CC := Aside0.mk hC
  have DC := Aside0.mk hD
  have q1 : ((s.size : Int) == 32767) = true := beq_iff_eq.2 (by omega)
  clear hW hC hD hs
  go_enter Tryz.func5, Tryz.ntmps5
  go_upto_region 1 with (fail)
  obtain ⟨g, W, hg, hW, K, B⟩ := box33 w (zv 2 t o s b c r q p 0 p0)
  rw [hW, hg]
  clear hW hg
  obtain ⟨c0, c1, c2, c3, c4, c5, c6, c7, c8⟩ := val_cells K.out
  go_wp2_with (first | (go_at_call 6; (with_reducible refine (GC.out _ (HW.out.up (bl B.out)).gl (HW.out.up (bl B.out)).fs).mono ?_); rintro _ w1 ⟨rfl, hb1⟩; have B_ := Aside0.mk (below_step (bl B.out) hb1); have K_ := Aside0.mk (blk_below (blk_below K.out climb) hb1); clear B K hb1 c0 c1 c2 c3 c4 c5 c6 c7 c8; have B := B_; have K := K_; clear B_ K_; obtain ⟨c0, c1, c2, c3, c4, c5, c6, c7, c8⟩ := val_cells K.out) | (go_at_call 10; (with_reducible refine (CC.out _ (HW.out.up (bl B.out))).mono ?_); rintro _ w1 ⟨rfl, hb1⟩; have B_ := Aside0.mk (below_step (bl B.out) hb1); have K_ := Aside0.mk (blk_below (blk_below K.out climb) hb1); clear B K hb1 c0 c1 c2 c3 c4 c5 c6 c7 c8; have B := B_; have K := K_; clear B_ K_; obtain ⟨c0, c1, c2, c3, c4, c5, c6, c7, c8⟩ := val_cells K.out) | (go_at_call 13; (with_reducible refine (DC.out _ (HW.out.up (bl B.out))).mono ?_); rintro _ w1 ⟨rfl, hb1⟩; have B_ := Aside0.mk (below_step (bl B.out) hb1); have K_ := Aside0.mk (blk_below (blk_below K.out climb) hb1); clear B K hb1 c0 c1 c2 c3 c4 c5 c6 c7 c8; have B := B_; have K := K_; clear B_ K_; obtain ⟨c0, c1, c2, c3, c4, c5, c6, c7, c8⟩ := val_cells K.out))
  go_ret
  exact ⟨rfl, bl B.out⟩
set_option maxHeartbeats 8000000 in
set_option maxRecDepth 100000 in
theorem back_good (t o s : ByteArray) (b : Bool) (c r q : Int) (p : Option Addr) (p0 : Nat) (S s0 : ByteArray) (m : Nat) (hS : exact_Shortest.f m t o = some (s0, true, 0)) (h40 : s0.size ≤ 40) (hC : ∀ w, Wd w → Calls Tryz.prog 10 #[.agg #[.int .i64 1, .string t, .string o, .string s, .bool b, .int .i64 c, .int .i64 r, .int .i64 q, .slice p 0 p0]] w fun x w' => x = .returned (.int .i64 0) ∧ Below w.heap.size w w') (hD : ∀ w, Wd w → Calls Tryz.prog 13 #[.agg #[.int .i64 1, .string t, .string o, .string s, .bool b, .int .i64 c, .int .i64 r, .int .i64 q, .slice p 0 p0]] w fun e w' => e = .returned (.tuple #[.string S, .int .i64 0]) ∧ Below w.heap.size w w') (hE : ∀ w, Wd w → Calls Tryz.prog 15 #[.string S] w fun x w' => x = .returned (.agg #[.int .i64 1, .string t, .string o, .string s, .bool b, .int .i64 c, .int .i64 r, .int .i64 q, .slice none 0 0]) ∧ Below w.heap.size w w') (w : World) (hW : Wd w) :
    Calls Tryz.prog 5 #[.agg #[.int .i64 1, .string t, .string o, .string s, .bool b, .int .i64 c, .int .i64 r, .int .i64 q, .slice p 0 p0]] w fun x w' => x = .returned (.bool true) ∧ Below w.heap.size w w' := by
  have GC := Aside0.mk values_c
  have HW := Aside0.mk hW
  have CC := Aside0.mk hC
  have DC := Aside0.mk hD
  have EC := Aside0.mk hE
  have MC := Aside0.mk (fun w => same_calls 1 t o s b c r q none 0 p p0 w)
  have q40 : ¬ (s0.size : Int) > 40 := by omega
  have SC := Aside0.mk (fun w hGl => exact_Shortest.calls m t o s0 true 0 w hGl hS)
  clear hW hC hD hE hS h40
  go_enter Tryz.func5, Tryz.ntmps5
  go_upto_region 1 with (fail)
  obtain ⟨g, W, hg, hW, K, B⟩ := box33 w (zv 1 t o s b c r q p 0 p0)
  rw [hW, hg]
  clear hW hg
  obtain ⟨c0, c1, c2, c3, c4, c5, c6, c7, c8⟩ := val_cells K.out
  go_upto_region 17 with (first | (go_at_call 6; (with_reducible refine (GC.out _ (HW.out.up (bl B.out)).gl (HW.out.up (bl B.out)).fs).mono ?_); rintro _ w1 ⟨rfl, hb1⟩; have B_ := Aside0.mk (below_step (bl B.out) hb1); have K_ := Aside0.mk (blk_below (blk_below K.out climb) hb1); clear B K hb1 c0 c1 c2 c3 c4 c5 c6 c7 c8; have B := B_; have K := K_; clear B_ K_; obtain ⟨c0, c1, c2, c3, c4, c5, c6, c7, c8⟩ := val_cells K.out) | (go_at_call 10; (with_reducible refine (CC.out _ (HW.out.up (bl B.out))).mono ?_); rintro _ w1 ⟨rfl, hb1⟩; have B_ := Aside0.mk (below_step (bl B.out) hb1); have K_ := Aside0.mk (blk_below (blk_below K.out climb) hb1); clear B K hb1 c0 c1 c2 c3 c4 c5 c6 c7 c8; have B := B_; have K := K_; clear B_ K_; obtain ⟨c0, c1, c2, c3, c4, c5, c6, c7, c8⟩ := val_cells K.out) | (go_at_call 13; (with_reducible refine (DC.out _ (HW.out.up (bl B.out))).mono ?_); rintro _ w1 ⟨rfl, hb1⟩; have B_ := Aside0.mk (below_step (bl B.out) hb1); have K_ := Aside0.mk (blk_below (blk_below K.out climb) hb1); clear B K hb1 c0 c1 c2 c3 c4 c5 c6 c7 c8; have B := B_; have K := K_; clear B_ K_; obtain ⟨c0, c1, c2, c3, c4, c5, c6, c7, c8⟩ := val_cells K.out) | (go_at_call 14; (with_reducible refine (SC.out _ (gl_below HW.out.gl (bl B.out))).mono ?_); rintro _ w1 ⟨rfl, hb1⟩; have B_ := Aside0.mk (below_step (bl B.out) hb1); have K_ := Aside0.mk (blk_below (blk_below K.out climb) hb1); clear B K hb1 c0 c1 c2 c3 c4 c5 c6 c7 c8; have B := B_; have K := K_; clear B_ K_; obtain ⟨c0, c1, c2, c3, c4, c5, c6, c7, c8⟩ := val_cells K.out))
  obtain ⟨W, hW⟩ : ∃ W, W = w1 := ⟨_, rfl⟩
  rw [← hW] at K B ⊢
  have HWW := Aside0.mk (HW.out.up (bl B.out))
  clear hW
  have C := Aside0.mk (Below.refl W.heap.size W)
  have L0 := Aside0.mk (fun w' (h : Below W.heap.size W w') => (show w'.cell? ⟨g, 0, none⟩ = some (.int .i64 1) ∧ w'.cell? ⟨g, 1, none⟩ = some (.string t) ∧ w'.cell? ⟨g, 2, none⟩ = some (.string o) ∧ w'.cell? ⟨g, 3, none⟩ = some (.string s) ∧ w'.cell? ⟨g, 4, none⟩ = some (.bool b) ∧ w'.cell? ⟨g, 5, none⟩ = some (.int .i64 c) ∧ w'.cell? ⟨g, 6, none⟩ = some (.int .i64 r) ∧ w'.cell? ⟨g, 7, none⟩ = some (.int .i64 q) ∧ w'.cell? ⟨g, 8, none⟩ = some (.slice p 0 p0) from by obtain ⟨c0, c1, c2, c3, c4, c5, c6, c7, c8⟩ := val_cells (blk_below K.out h); exact ⟨c0, c1, c2, c3, c4, c5, c6, c7, c8⟩))
  clear c0 c1 c2 c3 c4 c5 c6 c7 c8
  go_region_held3 (fun w' => w'.cell? ⟨g, 0, none⟩ = some (.int .i64 1) ∧ w'.cell? ⟨g, 1, none⟩ = some (.string t) ∧ w'.cell? ⟨g, 2, none⟩ = some (.string o) ∧ w'.cell? ⟨g, 3, none⟩ = some (.string s) ∧ w'.cell? ⟨g, 4, none⟩ = some (.bool b) ∧ w'.cell? ⟨g, 5, none⟩ = some (.int .i64 c) ∧ w'.cell? ⟨g, 6, none⟩ = some (.int .i64 r) ∧ w'.cell? ⟨g, 7, none⟩ = some (.int .i64 q) ∧ w'.cell? ⟨g, 8, none⟩ = some (.slice p 0 p0)) (first | exact L0.out _ C.out | exact L0.out _ (bl C.out) | exact L0.out _ climb) (first | (go_at_call 15; (with_reducible refine (EC.out _ ?_).mono ?_); (first | exact HWW.out.up C.out | exact HWW.out.up (bl C.out) | exact HWW.out.up climb); rintro _ w1 ⟨rfl, hb1⟩; have C_ := Aside0.mk (below_step (bl C.out) hb1); clear C hb1; have C := C_; clear C_) | (go_at_call 12; (with_reducible refine (MC.out _).mono ?_); rintro _ w1 ⟨rfl, hb1⟩; have C_ := Aside0.mk (below_step (bl C.out) hb1); clear C hb1; have C := C_; clear C_))
  all_goals
    try go_wp2
    go_ret
    exact ⟨rfl, below_step (bl B.out) (bl C.out)⟩
set_option maxHeartbeats 8000000 in
set_option maxRecDepth 100000 in
theorem back_other_false_n (t o s : ByteArray) (b : Bool) (c r q : Int) (p : Option Addr) (p0 : Nat) (S s0 : ByteArray) (m : Nat) (kz : Int) (tz oz sz : ByteArray) (bz : Bool) (cz rz qz : Int) (hS : exact_Shortest.f m t o = some (s0, false, 0)) (hq : (S.toList == [35, 78, 85, 77, 33]) = true) (hC : ∀ w, Wd w → Calls Tryz.prog 10 #[.agg #[.int .i64 1, .string t, .string o, .string s, .bool b, .int .i64 c, .int .i64 r, .int .i64 q, .slice p 0 p0]] w fun x w' => x = .returned (.int .i64 0) ∧ Below w.heap.size w w') (hD : ∀ w, Wd w → Calls Tryz.prog 13 #[.agg #[.int .i64 1, .string t, .string o, .string s, .bool b, .int .i64 c, .int .i64 r, .int .i64 q, .slice p 0 p0]] w fun e w' => e = .returned (.tuple #[.string S, .int .i64 0]) ∧ Below w.heap.size w w') (hE : ∀ w, Wd w → Calls Tryz.prog 15 #[.string S] w fun x w' => x = .returned (.agg #[.int .i64 kz, .string tz, .string oz, .string sz, .bool bz, .int .i64 cz, .int .i64 rz, .int .i64 qz, .slice none 0 0]) ∧ Below w.heap.size w w') (w : World) (hW : Wd w) :
    Calls Tryz.prog 5 #[.agg #[.int .i64 1, .string t, .string o, .string s, .bool b, .int .i64 c, .int .i64 r, .int .i64 q, .slice p 0 p0]] w fun x w' => x = .returned (.bool true) ∧ Below w.heap.size w w' := by
  have GC := Aside0.mk values_c
  have HW := Aside0.mk hW
  have CC := Aside0.mk hC
  have DC := Aside0.mk hD
  have EC := Aside0.mk hE
  have SC := Aside0.mk (fun w hGl => exact_Shortest.calls m t o s0 false 0 w hGl hS)
  clear hW hC hD hE hS
  go_enter Tryz.func5, Tryz.ntmps5
  go_upto_region 1 with (fail)
  obtain ⟨g, W, hg, hW, K, B⟩ := box33 w (zv 1 t o s b c r q p 0 p0)
  rw [hW, hg]
  clear hW hg
  obtain ⟨c0, c1, c2, c3, c4, c5, c6, c7, c8⟩ := val_cells K.out
  go_upto_region 12 with (first | (go_at_call 6; (with_reducible refine (GC.out _ (HW.out.up (bl B.out)).gl (HW.out.up (bl B.out)).fs).mono ?_); rintro _ w1 ⟨rfl, hb1⟩; have B_ := Aside0.mk (below_step (bl B.out) hb1); have K_ := Aside0.mk (blk_below (blk_below K.out climb) hb1); clear B K hb1 c0 c1 c2 c3 c4 c5 c6 c7 c8; have B := B_; have K := K_; clear B_ K_; obtain ⟨c0, c1, c2, c3, c4, c5, c6, c7, c8⟩ := val_cells K.out) | (go_at_call 10; (with_reducible refine (CC.out _ (HW.out.up (bl B.out))).mono ?_); rintro _ w1 ⟨rfl, hb1⟩; have B_ := Aside0.mk (below_step (bl B.out) hb1); have K_ := Aside0.mk (blk_below (blk_below K.out climb) hb1); clear B K hb1 c0 c1 c2 c3 c4 c5 c6 c7 c8; have B := B_; have K := K_; clear B_ K_; obtain ⟨c0, c1, c2, c3, c4, c5, c6, c7, c8⟩ := val_cells K.out) | (go_at_call 13; (with_reducible refine (DC.out _ (HW.out.up (bl B.out))).mono ?_); rintro _ w1 ⟨rfl, hb1⟩; have B_ := Aside0.mk (below_step (bl B.out) hb1); have K_ := Aside0.mk (blk_below (blk_below K.out climb) hb1); clear B K hb1 c0 c1 c2 c3 c4 c5 c6 c7 c8; have B := B_; have K := K_; clear B_ K_; obtain ⟨c0, c1, c2, c3, c4, c5, c6, c7, c8⟩ := val_cells K.out) | (go_at_call 14; (with_reducible refine (SC.out _ (gl_below HW.out.gl (bl B.out))).mono ?_); rintro _ w1 ⟨rfl, hb1⟩; have B_ := Aside0.mk (below_step (bl B.out) hb1); have K_ := Aside0.mk (blk_below (blk_below K.out climb) hb1); clear B K hb1 c0 c1 c2 c3 c4 c5 c6 c7 c8; have B := B_; have K := K_; clear B_ K_; obtain ⟨c0, c1, c2, c3, c4, c5, c6, c7, c8⟩ := val_cells K.out) | (go_at_call 15; (with_reducible refine (EC.out _ (HW.out.up (bl B.out))).mono ?_); rintro _ w1 ⟨rfl, hb1⟩; have B_ := Aside0.mk (below_step (bl B.out) hb1); have K_ := Aside0.mk (blk_below (blk_below K.out climb) hb1); clear B K hb1 c0 c1 c2 c3 c4 c5 c6 c7 c8; have B := B_; have K := K_; clear B_ K_; obtain ⟨c0, c1, c2, c3, c4, c5, c6, c7, c8⟩ := val_cells K.out))
  have X := Aside0.mk (blk_new w1 (.cells (zv kz tz oz sz bz cz rz qz none 0 0) 33))
  have U := Aside0.mk (below_step (bl B.out) (show Below w1.heap.size w1 (w1.alloc (.cells (zv kz tz oz sz bz cz rz qz none 0 0) 33)) from climb))
  obtain ⟨g4, hg4⟩ : ∃ g4, g4 = w1.heap.size := ⟨_, rfl⟩
  rw [← hg4] at X
  obtain ⟨W3, hW3⟩ : ∃ W3, W3 = w1.alloc (.cells (zv kz tz oz sz bz cz rz qz none 0 0) 33) := ⟨_, rfl⟩
  rw [← hW3] at X U
  rw [← hg4, ← hW3]
  clear hg4 hW3 B K c0 c1 c2 c3 c4 c5 c6 c7 c8
  have B := U
  obtain ⟨c0, c1, c2, c3, c4, c5, c6, c7, c8⟩ := val_cells X.out
  go_wp2
  go_ret
  exact ⟨rfl, bl B.out⟩
set_option maxHeartbeats 8000000 in
set_option maxRecDepth 100000 in
theorem back_other_false_k (t o s : ByteArray) (b : Bool) (c r q : Int) (p : Option Addr) (p0 : Nat) (S s0 : ByteArray) (m : Nat) (tz oz sz : ByteArray) (bz : Bool) (cz rz qz : Int) (hS : exact_Shortest.f m t o = some (s0, false, 0)) (hq : (S.toList == [35, 78, 85, 77, 33]) = false) (hC : ∀ w, Wd w → Calls Tryz.prog 10 #[.agg #[.int .i64 1, .string t, .string o, .string s, .bool b, .int .i64 c, .int .i64 r, .int .i64 q, .slice p 0 p0]] w fun x w' => x = .returned (.int .i64 0) ∧ Below w.heap.size w w') (hD : ∀ w, Wd w → Calls Tryz.prog 13 #[.agg #[.int .i64 1, .string t, .string o, .string s, .bool b, .int .i64 c, .int .i64 r, .int .i64 q, .slice p 0 p0]] w fun e w' => e = .returned (.tuple #[.string S, .int .i64 0]) ∧ Below w.heap.size w w') (hE : ∀ w, Wd w → Calls Tryz.prog 15 #[.string S] w fun x w' => x = .returned (.agg #[.int .i64 1, .string tz, .string oz, .string sz, .bool bz, .int .i64 cz, .int .i64 rz, .int .i64 qz, .slice none 0 0]) ∧ Below w.heap.size w w') (w : World) (hW : Wd w) :
    Calls Tryz.prog 5 #[.agg #[.int .i64 1, .string t, .string o, .string s, .bool b, .int .i64 c, .int .i64 r, .int .i64 q, .slice p 0 p0]] w fun x w' => x = .returned (.bool true) ∧ Below w.heap.size w w' := by
  have GC := Aside0.mk values_c
  have HW := Aside0.mk hW
  have CC := Aside0.mk hC
  have DC := Aside0.mk hD
  have EC := Aside0.mk hE
  have SC := Aside0.mk (fun w hGl => exact_Shortest.calls m t o s0 false 0 w hGl hS)
  clear hW hC hD hE hS
  go_enter Tryz.func5, Tryz.ntmps5
  go_upto_region 1 with (fail)
  obtain ⟨g, W, hg, hW, K, B⟩ := box33 w (zv 1 t o s b c r q p 0 p0)
  rw [hW, hg]
  clear hW hg
  obtain ⟨c0, c1, c2, c3, c4, c5, c6, c7, c8⟩ := val_cells K.out
  go_upto_region 12 with (first | (go_at_call 6; (with_reducible refine (GC.out _ (HW.out.up (bl B.out)).gl (HW.out.up (bl B.out)).fs).mono ?_); rintro _ w1 ⟨rfl, hb1⟩; have B_ := Aside0.mk (below_step (bl B.out) hb1); have K_ := Aside0.mk (blk_below (blk_below K.out climb) hb1); clear B K hb1 c0 c1 c2 c3 c4 c5 c6 c7 c8; have B := B_; have K := K_; clear B_ K_; obtain ⟨c0, c1, c2, c3, c4, c5, c6, c7, c8⟩ := val_cells K.out) | (go_at_call 10; (with_reducible refine (CC.out _ (HW.out.up (bl B.out))).mono ?_); rintro _ w1 ⟨rfl, hb1⟩; have B_ := Aside0.mk (below_step (bl B.out) hb1); have K_ := Aside0.mk (blk_below (blk_below K.out climb) hb1); clear B K hb1 c0 c1 c2 c3 c4 c5 c6 c7 c8; have B := B_; have K := K_; clear B_ K_; obtain ⟨c0, c1, c2, c3, c4, c5, c6, c7, c8⟩ := val_cells K.out) | (go_at_call 13; (with_reducible refine (DC.out _ (HW.out.up (bl B.out))).mono ?_); rintro _ w1 ⟨rfl, hb1⟩; have B_ := Aside0.mk (below_step (bl B.out) hb1); have K_ := Aside0.mk (blk_below (blk_below K.out climb) hb1); clear B K hb1 c0 c1 c2 c3 c4 c5 c6 c7 c8; have B := B_; have K := K_; clear B_ K_; obtain ⟨c0, c1, c2, c3, c4, c5, c6, c7, c8⟩ := val_cells K.out) | (go_at_call 14; (with_reducible refine (SC.out _ (gl_below HW.out.gl (bl B.out))).mono ?_); rintro _ w1 ⟨rfl, hb1⟩; have B_ := Aside0.mk (below_step (bl B.out) hb1); have K_ := Aside0.mk (blk_below (blk_below K.out climb) hb1); clear B K hb1 c0 c1 c2 c3 c4 c5 c6 c7 c8; have B := B_; have K := K_; clear B_ K_; obtain ⟨c0, c1, c2, c3, c4, c5, c6, c7, c8⟩ := val_cells K.out) | (go_at_call 15; (with_reducible refine (EC.out _ (HW.out.up (bl B.out))).mono ?_); rintro _ w1 ⟨rfl, hb1⟩; have B_ := Aside0.mk (below_step (bl B.out) hb1); have K_ := Aside0.mk (blk_below (blk_below K.out climb) hb1); clear B K hb1 c0 c1 c2 c3 c4 c5 c6 c7 c8; have B := B_; have K := K_; clear B_ K_; obtain ⟨c0, c1, c2, c3, c4, c5, c6, c7, c8⟩ := val_cells K.out))
  have X := Aside0.mk (blk_new w1 (.cells (zv 1 tz oz sz bz cz rz qz none 0 0) 33))
  have U := Aside0.mk (below_step (bl B.out) (show Below w1.heap.size w1 (w1.alloc (.cells (zv 1 tz oz sz bz cz rz qz none 0 0) 33)) from climb))
  obtain ⟨g4, hg4⟩ : ∃ g4, g4 = w1.heap.size := ⟨_, rfl⟩
  rw [← hg4] at X
  obtain ⟨W3, hW3⟩ : ∃ W3, W3 = w1.alloc (.cells (zv 1 tz oz sz bz cz rz qz none 0 0) 33) := ⟨_, rfl⟩
  rw [← hW3] at X U
  rw [← hg4, ← hW3]
  clear hg4 hW3 B K c0 c1 c2 c3 c4 c5 c6 c7 c8
  have B := U
  obtain ⟨c0, c1, c2, c3, c4, c5, c6, c7, c8⟩ := val_cells X.out
  go_wp2
  go_ret
  exact ⟨rfl, bl B.out⟩
set_option maxHeartbeats 8000000 in
set_option maxRecDepth 100000 in
theorem back_other_true_n (t o s : ByteArray) (b : Bool) (c r q : Int) (p : Option Addr) (p0 : Nat) (S s0 : ByteArray) (m : Nat) (kz : Int) (tz oz sz : ByteArray) (bz : Bool) (cz rz qz : Int) (hS : exact_Shortest.f m t o = some (s0, true, 0)) (h40 : 40 < s0.size) (hq : (S.toList == [35, 78, 85, 77, 33]) = true) (hC : ∀ w, Wd w → Calls Tryz.prog 10 #[.agg #[.int .i64 1, .string t, .string o, .string s, .bool b, .int .i64 c, .int .i64 r, .int .i64 q, .slice p 0 p0]] w fun x w' => x = .returned (.int .i64 0) ∧ Below w.heap.size w w') (hD : ∀ w, Wd w → Calls Tryz.prog 13 #[.agg #[.int .i64 1, .string t, .string o, .string s, .bool b, .int .i64 c, .int .i64 r, .int .i64 q, .slice p 0 p0]] w fun e w' => e = .returned (.tuple #[.string S, .int .i64 0]) ∧ Below w.heap.size w w') (hE : ∀ w, Wd w → Calls Tryz.prog 15 #[.string S] w fun x w' => x = .returned (.agg #[.int .i64 kz, .string tz, .string oz, .string sz, .bool bz, .int .i64 cz, .int .i64 rz, .int .i64 qz, .slice none 0 0]) ∧ Below w.heap.size w w') (w : World) (hW : Wd w) :
    Calls Tryz.prog 5 #[.agg #[.int .i64 1, .string t, .string o, .string s, .bool b, .int .i64 c, .int .i64 r, .int .i64 q, .slice p 0 p0]] w fun x w' => x = .returned (.bool true) ∧ Below w.heap.size w w' := by
  have GC := Aside0.mk values_c
  have HW := Aside0.mk hW
  have CC := Aside0.mk hC
  have DC := Aside0.mk hD
  have EC := Aside0.mk hE
  have q40 : (s0.size : Int) > 40 := by omega
  have SC := Aside0.mk (fun w hGl => exact_Shortest.calls m t o s0 true 0 w hGl hS)
  clear hW hC hD hE hS
  go_enter Tryz.func5, Tryz.ntmps5
  go_upto_region 1 with (fail)
  obtain ⟨g, W, hg, hW, K, B⟩ := box33 w (zv 1 t o s b c r q p 0 p0)
  rw [hW, hg]
  clear hW hg
  obtain ⟨c0, c1, c2, c3, c4, c5, c6, c7, c8⟩ := val_cells K.out
  go_upto_region 12 with (first | (go_at_call 6; (with_reducible refine (GC.out _ (HW.out.up (bl B.out)).gl (HW.out.up (bl B.out)).fs).mono ?_); rintro _ w1 ⟨rfl, hb1⟩; have B_ := Aside0.mk (below_step (bl B.out) hb1); have K_ := Aside0.mk (blk_below (blk_below K.out climb) hb1); clear B K hb1 c0 c1 c2 c3 c4 c5 c6 c7 c8; have B := B_; have K := K_; clear B_ K_; obtain ⟨c0, c1, c2, c3, c4, c5, c6, c7, c8⟩ := val_cells K.out) | (go_at_call 10; (with_reducible refine (CC.out _ (HW.out.up (bl B.out))).mono ?_); rintro _ w1 ⟨rfl, hb1⟩; have B_ := Aside0.mk (below_step (bl B.out) hb1); have K_ := Aside0.mk (blk_below (blk_below K.out climb) hb1); clear B K hb1 c0 c1 c2 c3 c4 c5 c6 c7 c8; have B := B_; have K := K_; clear B_ K_; obtain ⟨c0, c1, c2, c3, c4, c5, c6, c7, c8⟩ := val_cells K.out) | (go_at_call 13; (with_reducible refine (DC.out _ (HW.out.up (bl B.out))).mono ?_); rintro _ w1 ⟨rfl, hb1⟩; have B_ := Aside0.mk (below_step (bl B.out) hb1); have K_ := Aside0.mk (blk_below (blk_below K.out climb) hb1); clear B K hb1 c0 c1 c2 c3 c4 c5 c6 c7 c8; have B := B_; have K := K_; clear B_ K_; obtain ⟨c0, c1, c2, c3, c4, c5, c6, c7, c8⟩ := val_cells K.out) | (go_at_call 14; (with_reducible refine (SC.out _ (gl_below HW.out.gl (bl B.out))).mono ?_); rintro _ w1 ⟨rfl, hb1⟩; have B_ := Aside0.mk (below_step (bl B.out) hb1); have K_ := Aside0.mk (blk_below (blk_below K.out climb) hb1); clear B K hb1 c0 c1 c2 c3 c4 c5 c6 c7 c8; have B := B_; have K := K_; clear B_ K_; obtain ⟨c0, c1, c2, c3, c4, c5, c6, c7, c8⟩ := val_cells K.out) | (go_at_call 15; (with_reducible refine (EC.out _ (HW.out.up (bl B.out))).mono ?_); rintro _ w1 ⟨rfl, hb1⟩; have B_ := Aside0.mk (below_step (bl B.out) hb1); have K_ := Aside0.mk (blk_below (blk_below K.out climb) hb1); clear B K hb1 c0 c1 c2 c3 c4 c5 c6 c7 c8; have B := B_; have K := K_; clear B_ K_; obtain ⟨c0, c1, c2, c3, c4, c5, c6, c7, c8⟩ := val_cells K.out))
  have X := Aside0.mk (blk_new w1 (.cells (zv kz tz oz sz bz cz rz qz none 0 0) 33))
  have U := Aside0.mk (below_step (bl B.out) (show Below w1.heap.size w1 (w1.alloc (.cells (zv kz tz oz sz bz cz rz qz none 0 0) 33)) from climb))
  obtain ⟨g4, hg4⟩ : ∃ g4, g4 = w1.heap.size := ⟨_, rfl⟩
  rw [← hg4] at X
  obtain ⟨W3, hW3⟩ : ∃ W3, W3 = w1.alloc (.cells (zv kz tz oz sz bz cz rz qz none 0 0) 33) := ⟨_, rfl⟩
  rw [← hW3] at X U
  rw [← hg4, ← hW3]
  clear hg4 hW3 B K c0 c1 c2 c3 c4 c5 c6 c7 c8
  have B := U
  obtain ⟨c0, c1, c2, c3, c4, c5, c6, c7, c8⟩ := val_cells X.out
  go_wp2
  go_ret
  exact ⟨rfl, bl B.out⟩
set_option maxHeartbeats 8000000 in
set_option maxRecDepth 100000 in
theorem back_other_true_k (t o s : ByteArray) (b : Bool) (c r q : Int) (p : Option Addr) (p0 : Nat) (S s0 : ByteArray) (m : Nat) (tz oz sz : ByteArray) (bz : Bool) (cz rz qz : Int) (hS : exact_Shortest.f m t o = some (s0, true, 0)) (h40 : 40 < s0.size) (hq : (S.toList == [35, 78, 85, 77, 33]) = false) (hC : ∀ w, Wd w → Calls Tryz.prog 10 #[.agg #[.int .i64 1, .string t, .string o, .string s, .bool b, .int .i64 c, .int .i64 r, .int .i64 q, .slice p 0 p0]] w fun x w' => x = .returned (.int .i64 0) ∧ Below w.heap.size w w') (hD : ∀ w, Wd w → Calls Tryz.prog 13 #[.agg #[.int .i64 1, .string t, .string o, .string s, .bool b, .int .i64 c, .int .i64 r, .int .i64 q, .slice p 0 p0]] w fun e w' => e = .returned (.tuple #[.string S, .int .i64 0]) ∧ Below w.heap.size w w') (hE : ∀ w, Wd w → Calls Tryz.prog 15 #[.string S] w fun x w' => x = .returned (.agg #[.int .i64 1, .string tz, .string oz, .string sz, .bool bz, .int .i64 cz, .int .i64 rz, .int .i64 qz, .slice none 0 0]) ∧ Below w.heap.size w w') (w : World) (hW : Wd w) :
    Calls Tryz.prog 5 #[.agg #[.int .i64 1, .string t, .string o, .string s, .bool b, .int .i64 c, .int .i64 r, .int .i64 q, .slice p 0 p0]] w fun x w' => x = .returned (.bool true) ∧ Below w.heap.size w w' := by
  have GC := Aside0.mk values_c
  have HW := Aside0.mk hW
  have CC := Aside0.mk hC
  have DC := Aside0.mk hD
  have EC := Aside0.mk hE
  have q40 : (s0.size : Int) > 40 := by omega
  have SC := Aside0.mk (fun w hGl => exact_Shortest.calls m t o s0 true 0 w hGl hS)
  clear hW hC hD hE hS
  go_enter Tryz.func5, Tryz.ntmps5
  go_upto_region 1 with (fail)
  obtain ⟨g, W, hg, hW, K, B⟩ := box33 w (zv 1 t o s b c r q p 0 p0)
  rw [hW, hg]
  clear hW hg
  obtain ⟨c0, c1, c2, c3, c4, c5, c6, c7, c8⟩ := val_cells K.out
  go_upto_region 12 with (first | (go_at_call 6; (with_reducible refine (GC.out _ (HW.out.up (bl B.out)).gl (HW.out.up (bl B.out)).fs).mono ?_); rintro _ w1 ⟨rfl, hb1⟩; have B_ := Aside0.mk (below_step (bl B.out) hb1); have K_ := Aside0.mk (blk_below (blk_below K.out climb) hb1); clear B K hb1 c0 c1 c2 c3 c4 c5 c6 c7 c8; have B := B_; have K := K_; clear B_ K_; obtain ⟨c0, c1, c2, c3, c4, c5, c6, c7, c8⟩ := val_cells K.out) | (go_at_call 10; (with_reducible refine (CC.out _ (HW.out.up (bl B.out))).mono ?_); rintro _ w1 ⟨rfl, hb1⟩; have B_ := Aside0.mk (below_step (bl B.out) hb1); have K_ := Aside0.mk (blk_below (blk_below K.out climb) hb1); clear B K hb1 c0 c1 c2 c3 c4 c5 c6 c7 c8; have B := B_; have K := K_; clear B_ K_; obtain ⟨c0, c1, c2, c3, c4, c5, c6, c7, c8⟩ := val_cells K.out) | (go_at_call 13; (with_reducible refine (DC.out _ (HW.out.up (bl B.out))).mono ?_); rintro _ w1 ⟨rfl, hb1⟩; have B_ := Aside0.mk (below_step (bl B.out) hb1); have K_ := Aside0.mk (blk_below (blk_below K.out climb) hb1); clear B K hb1 c0 c1 c2 c3 c4 c5 c6 c7 c8; have B := B_; have K := K_; clear B_ K_; obtain ⟨c0, c1, c2, c3, c4, c5, c6, c7, c8⟩ := val_cells K.out) | (go_at_call 14; (with_reducible refine (SC.out _ (gl_below HW.out.gl (bl B.out))).mono ?_); rintro _ w1 ⟨rfl, hb1⟩; have B_ := Aside0.mk (below_step (bl B.out) hb1); have K_ := Aside0.mk (blk_below (blk_below K.out climb) hb1); clear B K hb1 c0 c1 c2 c3 c4 c5 c6 c7 c8; have B := B_; have K := K_; clear B_ K_; obtain ⟨c0, c1, c2, c3, c4, c5, c6, c7, c8⟩ := val_cells K.out) | (go_at_call 15; (with_reducible refine (EC.out _ (HW.out.up (bl B.out))).mono ?_); rintro _ w1 ⟨rfl, hb1⟩; have B_ := Aside0.mk (below_step (bl B.out) hb1); have K_ := Aside0.mk (blk_below (blk_below K.out climb) hb1); clear B K hb1 c0 c1 c2 c3 c4 c5 c6 c7 c8; have B := B_; have K := K_; clear B_ K_; obtain ⟨c0, c1, c2, c3, c4, c5, c6, c7, c8⟩ := val_cells K.out))
  have X := Aside0.mk (blk_new w1 (.cells (zv 1 tz oz sz bz cz rz qz none 0 0) 33))
  have U := Aside0.mk (below_step (bl B.out) (show Below w1.heap.size w1 (w1.alloc (.cells (zv 1 tz oz sz bz cz rz qz none 0 0) 33)) from climb))
  obtain ⟨g4, hg4⟩ : ∃ g4, g4 = w1.heap.size := ⟨_, rfl⟩
  rw [← hg4] at X
  obtain ⟨W3, hW3⟩ : ∃ W3, W3 = w1.alloc (.cells (zv 1 tz oz sz bz cz rz qz none 0 0) 33) := ⟨_, rfl⟩
  rw [← hW3] at X U
  rw [← hg4, ← hW3]
  clear hg4 hW3 B K c0 c1 c2 c3 c4 c5 c6 c7 c8
  have B := U
  obtain ⟨c0, c1, c2, c3, c4, c5, c6, c7, c8⟩ := val_cells X.out
  go_wp2
  go_ret
  exact ⟨rfl, bl B.out⟩
end Go.Proofs.YtckfdhnimmaeiaaGreatDoor.Pr
