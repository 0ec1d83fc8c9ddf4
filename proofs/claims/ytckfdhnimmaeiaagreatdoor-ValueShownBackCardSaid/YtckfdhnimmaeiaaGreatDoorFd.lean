/- value.Check of any value that is no array (printed by wip/tools/mkcheck.py). -/
import Derived.Test.YtckfdhnimmaeiaaGreatDoorFc
namespace Go.Proofs.YtckfdhnimmaeiaaGreatDoor.Pr
open Go.RowKit Go.Proofs.YtckfdhnimmaeiaaGreatDoorW.PrintWords Go.Proofs.YtckfdhnimmaeiaaGreatDoorW.PrintLast Go.Proofs.YtckfdhnimmaeiaaGreatDoorW.PrintMore
set_option linter.unusedVariables false
set_option linter.unusedSimpArgs false
/-- What the walks of values read in memory. -/
structure Wd (w : World) : Prop where
  gl : Gl w
  fs : Fs w
  u8 : Lib.Utf8Tabs 1 2 w
theorem Wd.up {w w' : World} (h : Wd w) (k : Below w.heap.size w w') : Wd w' := ⟨gl_below h.gl k, h.fs.below k, tabs_up h.u8 k⟩
set_option maxHeartbeats 8000000 in
set_option maxRecDepth 100000 in
theorem check_lo (k : Int) (t o s : ByteArray) (b : Bool) (c r q : Int) (p : Option Addr) (n cap : Nat) (h : k < 0) (w : World) :
    Calls Tryz.prog 10 #[.agg #[.int .i64 k, .string t, .string o, .string s, .bool b, .int .i64 c, .int .i64 r, .int .i64 q, .slice p n cap]] w fun x w' => x = .returned (.int .i64 8) ∧ Below w.heap.size w w' := by
  go_enter Tryz.func10, Tryz.ntmps10
  go_upto_region 1 with (fail)
  obtain ⟨g, W, hg, hW, K, B⟩ := box33 w (zv k t o s b c r q p n cap)
  rw [hW, hg]
  clear hW hg
  obtain ⟨c0, c1, c2, c3, c4, c5, c6, c7, c8⟩ := val_cells K.out
  go_wp2
  go_ret
  exact ⟨rfl, bl B.out⟩
set_option maxHeartbeats 8000000 in
set_option maxRecDepth 100000 in
theorem check_hi (k : Int) (t o s : ByteArray) (b : Bool) (c r q : Int) (p : Option Addr) (n cap : Nat) (h : 5 < k) (w : World) :
    Calls Tryz.prog 10 #[.agg #[.int .i64 k, .string t, .string o, .string s, .bool b, .int .i64 c, .int .i64 r, .int .i64 q, .slice p n cap]] w fun x w' => x = .returned (.int .i64 8) ∧ Below w.heap.size w w' := by
  have h0 : ¬ k < 0 := by omega
  go_enter Tryz.func10, Tryz.ntmps10
  go_upto_region 1 with (fail)
  obtain ⟨g, W, hg, hW, K, B⟩ := box33 w (zv k t o s b c r q p n cap)
  rw [hW, hg]
  clear hW hg
  obtain ⟨c0, c1, c2, c3, c4, c5, c6, c7, c8⟩ := val_cells K.out
  go_wp2
  go_ret
  exact ⟨rfl, bl B.out⟩
set_option maxHeartbeats 8000000 in
set_option maxRecDepth 100000 in
theorem check_bad (k : Int) (t o s : ByteArray) (b : Bool) (c r q : Int) (p : Option Addr) (n cap : Nat) (h0 : ¬ k < 0) (h5 : ¬ 5 < k) (e : Int) (he : e ≠ 0) (hz : ∀ w, Calls Tryz.prog 18 #[.agg #[.int .i64 k, .string t, .string o, .string s, .bool b, .int .i64 c, .int .i64 r, .int .i64 q, .slice p n cap]] w fun x w' => x = .returned (.int .i64 e) ∧ Below w.heap.size w w') (w : World) :
    Calls Tryz.prog 10 #[.agg #[.int .i64 k, .string t, .string o, .string s, .bool b, .int .i64 c, .int .i64 r, .int .i64 q, .slice p n cap]] w fun x w' => x = .returned (.int .i64 e) ∧ Below w.heap.size w w' := by
  have ZC := Aside0.mk hz
  have q1 : (e == 0) = false := beq_eq_false_iff_ne.2 he
  clear hz
  go_enter Tryz.func10, Tryz.ntmps10
  go_upto_region 1 with (fail)
  obtain ⟨g, W, hg, hW, K, B⟩ := box33 w (zv k t o s b c r q p n cap)
  rw [hW, hg]
  clear hW hg
  obtain ⟨c0, c1, c2, c3, c4, c5, c6, c7, c8⟩ := val_cells K.out
  go_wp2_with (first | (go_at_call 18; (with_reducible refine (ZC.out _).mono ?_); rintro _ w1 ⟨rfl, hb1⟩; have B_ := Aside0.mk (below_step (bl B.out) hb1); have K_ := Aside0.mk (blk_below (blk_below K.out climb) hb1); clear B K hb1 c0 c1 c2 c3 c4 c5 c6 c7 c8; have B := B_; have K := K_; clear B_ K_; obtain ⟨c0, c1, c2, c3, c4, c5, c6, c7, c8⟩ := val_cells K.out))
  go_ret
  exact ⟨rfl, bl B.out⟩
set_option maxHeartbeats 8000000 in
set_option maxRecDepth 100000 in
theorem check_k0 (t o s : ByteArray) (b : Bool) (c r q : Int) (p : Option Addr) (n cap : Nat) (hz : ∀ w, Calls Tryz.prog 18 #[.agg #[.int .i64 0, .string t, .string o, .string s, .bool b, .int .i64 c, .int .i64 r, .int .i64 q, .slice p n cap]] w fun x w' => x = .returned (.int .i64 0) ∧ Below w.heap.size w w') (w : World) (hW : Wd w) :
    Calls Tryz.prog 10 #[.agg #[.int .i64 0, .string t, .string o, .string s, .bool b, .int .i64 c, .int .i64 r, .int .i64 q, .slice p n cap]] w fun x w' => x = .returned (.int .i64 0) ∧ Below w.heap.size w w' := by
  have ZC := Aside0.mk hz
  have HW := Aside0.mk hW
  clear hz hW
  go_enter Tryz.func10, Tryz.ntmps10
  go_upto_region 1 with (fail)
  obtain ⟨g, W, hg, hW, K, B⟩ := box33 w (zv 0 t o s b c r q p n cap)
  rw [hW, hg]
  clear hW hg
  obtain ⟨c0, c1, c2, c3, c4, c5, c6, c7, c8⟩ := val_cells K.out
  go_wp2_with (first | (go_at_call 18; (with_reducible refine (ZC.out _).mono ?_); rintro _ w1 ⟨rfl, hb1⟩; have B_ := Aside0.mk (below_step (bl B.out) hb1); have K_ := Aside0.mk (blk_below (blk_below K.out climb) hb1); clear B K hb1 c0 c1 c2 c3 c4 c5 c6 c7 c8; have B := B_; have K := K_; clear B_ K_; obtain ⟨c0, c1, c2, c3, c4, c5, c6, c7, c8⟩ := val_cells K.out))
  go_ret
  exact ⟨rfl, bl B.out⟩
set_option maxHeartbeats 8000000 in
set_option maxRecDepth 100000 in
theorem check_k3 (t o s : ByteArray) (b : Bool) (c r q : Int) (p : Option Addr) (n cap : Nat) (hz : ∀ w, Calls Tryz.prog 18 #[.agg #[.int .i64 3, .string t, .string o, .string s, .bool b, .int .i64 c, .int .i64 r, .int .i64 q, .slice p n cap]] w fun x w' => x = .returned (.int .i64 0) ∧ Below w.heap.size w w') (w : World) (hW : Wd w) :
    Calls Tryz.prog 10 #[.agg #[.int .i64 3, .string t, .string o, .string s, .bool b, .int .i64 c, .int .i64 r, .int .i64 q, .slice p n cap]] w fun x w' => x = .returned (.int .i64 0) ∧ Below w.heap.size w w' := by
  have ZC := Aside0.mk hz
  have HW := Aside0.mk hW
  clear hz hW
  go_enter Tryz.func10, Tryz.ntmps10
  go_upto_region 1 with (fail)
  obtain ⟨g, W, hg, hW, K, B⟩ := box33 w (zv 3 t o s b c r q p n cap)
  rw [hW, hg]
  clear hW hg
  obtain ⟨c0, c1, c2, c3, c4, c5, c6, c7, c8⟩ := val_cells K.out
  go_wp2_with (first | (go_at_call 18; (with_reducible refine (ZC.out _).mono ?_); rintro _ w1 ⟨rfl, hb1⟩; have B_ := Aside0.mk (below_step (bl B.out) hb1); have K_ := Aside0.mk (blk_below (blk_below K.out climb) hb1); clear B K hb1 c0 c1 c2 c3 c4 c5 c6 c7 c8; have B := B_; have K := K_; clear B_ K_; obtain ⟨c0, c1, c2, c3, c4, c5, c6, c7, c8⟩ := val_cells K.out))
  go_ret
  exact ⟨rfl, bl B.out⟩
set_option maxHeartbeats 8000000 in
set_option maxRecDepth 100000 in
theorem check_k1 (t o s : ByteArray) (b : Bool) (c r q : Int) (p : Option Addr) (n cap : Nat) (m : Nat) (e : Int) (hC : exact_Check.f m t o = some e) (hz : ∀ w, Calls Tryz.prog 18 #[.agg #[.int .i64 1, .string t, .string o, .string s, .bool b, .int .i64 c, .int .i64 r, .int .i64 q, .slice p n cap]] w fun x w' => x = .returned (.int .i64 0) ∧ Below w.heap.size w w') (w : World) (hW : Wd w) :
    Calls Tryz.prog 10 #[.agg #[.int .i64 1, .string t, .string o, .string s, .bool b, .int .i64 c, .int .i64 r, .int .i64 q, .slice p n cap]] w fun x w' => x = .returned (.int .i64 e) ∧ Below w.heap.size w w' := by
  have ZC := Aside0.mk hz
  have HW := Aside0.mk hW
  clear hz hW
  have CC := Aside0.mk (fun w hGl => exact_Check.calls m t o e w hGl hC)
  clear hC
  go_enter Tryz.func10, Tryz.ntmps10
  go_upto_region 1 with (fail)
  obtain ⟨g, W, hg, hW, K, B⟩ := box33 w (zv 1 t o s b c r q p n cap)
  rw [hW, hg]
  clear hW hg
  obtain ⟨c0, c1, c2, c3, c4, c5, c6, c7, c8⟩ := val_cells K.out
  go_wp2_with (first | (go_at_call 18; (with_reducible refine (ZC.out _).mono ?_); rintro _ w1 ⟨rfl, hb1⟩; have B_ := Aside0.mk (below_step (bl B.out) hb1); have K_ := Aside0.mk (blk_below (blk_below K.out climb) hb1); clear B K hb1 c0 c1 c2 c3 c4 c5 c6 c7 c8; have B := B_; have K := K_; clear B_ K_; obtain ⟨c0, c1, c2, c3, c4, c5, c6, c7, c8⟩ := val_cells K.out) | (go_at_call 19; (with_reducible refine (CC.out _ (gl_below HW.out.gl (bl B.out))).mono ?_); rintro _ w1 ⟨rfl, hb1⟩; have B_ := Aside0.mk (below_step (bl B.out) hb1); clear B hb1; have B := B_; clear B_))
  go_ret
  exact ⟨rfl, bl B.out⟩
set_option maxHeartbeats 8000000 in
set_option maxRecDepth 100000 in
theorem check_k2 (t o s : ByteArray) (b : Bool) (c r q : Int) (p : Option Addr) (n cap : Nat) (hs : s.size ≤ maxLen) (hz : ∀ w, Calls Tryz.prog 18 #[.agg #[.int .i64 2, .string t, .string o, .string s, .bool b, .int .i64 c, .int .i64 r, .int .i64 q, .slice p n cap]] w fun x w' => x = .returned (.int .i64 0) ∧ Below w.heap.size w w') (w : World) (hW : Wd w) :
    Calls Tryz.prog 10 #[.agg #[.int .i64 2, .string t, .string o, .string s, .bool b, .int .i64 c, .int .i64 r, .int .i64 q, .slice p n cap]] w fun x w' => x = .returned (.int .i64 (textF s)) ∧ Below w.heap.size w w' := by
  have ZC := Aside0.mk hz
  have HW := Aside0.mk hW
  clear hz hW
  have CC := Aside0.mk (fun w hT => text_calls s w hT hs)
  clear hs
  generalize textF s = e at CC ⊢
  go_enter Tryz.func10, Tryz.ntmps10
  go_upto_region 1 with (fail)
  obtain ⟨g, W, hg, hW, K, B⟩ := box33 w (zv 2 t o s b c r q p n cap)
  rw [hW, hg]
  clear hW hg
  obtain ⟨c0, c1, c2, c3, c4, c5, c6, c7, c8⟩ := val_cells K.out
  go_wp2_with (first | (go_at_call 18; (with_reducible refine (ZC.out _).mono ?_); rintro _ w1 ⟨rfl, hb1⟩; have B_ := Aside0.mk (below_step (bl B.out) hb1); have K_ := Aside0.mk (blk_below (blk_below K.out climb) hb1); clear B K hb1 c0 c1 c2 c3 c4 c5 c6 c7 c8; have B := B_; have K := K_; clear B_ K_; obtain ⟨c0, c1, c2, c3, c4, c5, c6, c7, c8⟩ := val_cells K.out) | (go_at_call 20; (with_reducible refine (CC.out _ (tabs_up HW.out.u8 (bl B.out))).mono ?_); rintro _ w1 ⟨rfl, hb1⟩; have B_ := Aside0.mk (below_step (bl B.out) hb1); clear B hb1; have B := B_; clear B_))
  go_ret
  exact ⟨rfl, bl B.out⟩
set_option maxHeartbeats 8000000 in
set_option maxRecDepth 100000 in
theorem check_k4a (t o s : ByteArray) (b : Bool) (c r q : Int) (p : Option Addr) (n cap : Nat) (f : ByteArray) (hf : ∀ w, Fs w → Calls Tryz.prog 21 #[.int .i64 c] w fun r w' => r = .returned (.string f) ∧ Below w.heap.size w w') (hq : f ≠ ⟨#[]⟩) (hz : ∀ w, Calls Tryz.prog 18 #[.agg #[.int .i64 4, .string t, .string o, .string s, .bool b, .int .i64 c, .int .i64 r, .int .i64 q, .slice p n cap]] w fun x w' => x = .returned (.int .i64 0) ∧ Below w.heap.size w w') (w : World) (hW : Wd w) :
    Calls Tryz.prog 10 #[.agg #[.int .i64 4, .string t, .string o, .string s, .bool b, .int .i64 c, .int .i64 r, .int .i64 q, .slice p n cap]] w fun x w' => x = .returned (.int .i64 0) ∧ Below w.heap.size w w' := by
  have ZC := Aside0.mk hz
  have HW := Aside0.mk hW
  clear hz hW
  have CC := Aside0.mk hf
  obtain ⟨q1, q2⟩ := ne_empty hq
  clear hf hq
  go_enter Tryz.func10, Tryz.ntmps10
  go_upto_region 1 with (fail)
  obtain ⟨g, W, hg, hW, K, B⟩ := box33 w (zv 4 t o s b c r q p n cap)
  rw [hW, hg]
  clear hW hg
  obtain ⟨c0, c1, c2, c3, c4, c5, c6, c7, c8⟩ := val_cells K.out
  go_wp2_with (first | (go_at_call 18; (with_reducible refine (ZC.out _).mono ?_); rintro _ w1 ⟨rfl, hb1⟩; have B_ := Aside0.mk (below_step (bl B.out) hb1); have K_ := Aside0.mk (blk_below (blk_below K.out climb) hb1); clear B K hb1 c0 c1 c2 c3 c4 c5 c6 c7 c8; have B := B_; have K := K_; clear B_ K_; obtain ⟨c0, c1, c2, c3, c4, c5, c6, c7, c8⟩ := val_cells K.out) | (go_at_call 21; (with_reducible refine (CC.out _ (HW.out.fs.below (bl B.out))).mono ?_); rintro _ w1 ⟨rfl, hb1⟩; have B_ := Aside0.mk (below_step (bl B.out) hb1); clear B hb1; have B := B_; clear B_))
  go_ret
  exact ⟨rfl, bl B.out⟩
set_option maxHeartbeats 8000000 in
set_option maxRecDepth 100000 in
theorem check_k4b (t o s : ByteArray) (b : Bool) (c r q : Int) (p : Option Addr) (n cap : Nat) (f : ByteArray) (hf : ∀ w, Fs w → Calls Tryz.prog 21 #[.int .i64 c] w fun r w' => r = .returned (.string f) ∧ Below w.heap.size w w') (hq : f = ⟨#[]⟩) (hz : ∀ w, Calls Tryz.prog 18 #[.agg #[.int .i64 4, .string t, .string o, .string s, .bool b, .int .i64 c, .int .i64 r, .int .i64 q, .slice p n cap]] w fun x w' => x = .returned (.int .i64 0) ∧ Below w.heap.size w w') (w : World) (hW : Wd w) :
    Calls Tryz.prog 10 #[.agg #[.int .i64 4, .string t, .string o, .string s, .bool b, .int .i64 c, .int .i64 r, .int .i64 q, .slice p n cap]] w fun x w' => x = .returned (.int .i64 2) ∧ Below w.heap.size w w' := by
  have ZC := Aside0.mk hz
  have HW := Aside0.mk hW
  clear hz hW
  subst hq
  have CC := Aside0.mk hf
  clear hf
  go_enter Tryz.func10, Tryz.ntmps10
  go_upto_region 1 with (fail)
  obtain ⟨g, W, hg, hW, K, B⟩ := box33 w (zv 4 t o s b c r q p n cap)
  rw [hW, hg]
  clear hW hg
  obtain ⟨c0, c1, c2, c3, c4, c5, c6, c7, c8⟩ := val_cells K.out
  go_wp2_with (first | (go_at_call 18; (with_reducible refine (ZC.out _).mono ?_); rintro _ w1 ⟨rfl, hb1⟩; have B_ := Aside0.mk (below_step (bl B.out) hb1); have K_ := Aside0.mk (blk_below (blk_below K.out climb) hb1); clear B K hb1 c0 c1 c2 c3 c4 c5 c6 c7 c8; have B := B_; have K := K_; clear B_ K_; obtain ⟨c0, c1, c2, c3, c4, c5, c6, c7, c8⟩ := val_cells K.out) | (go_at_call 21; (with_reducible refine (CC.out _ (HW.out.fs.below (bl B.out))).mono ?_); rintro _ w1 ⟨rfl, hb1⟩; have B_ := Aside0.mk (below_step (bl B.out) hb1); clear B hb1; have B := B_; clear B_))
  go_ret
  exact ⟨rfl, bl B.out⟩
/-- What value.Check lets pass. -/
structure Ok (N : Prop) (k : Int) (t o s : ByteArray) (b : Bool) (c r q : Int) (n : Nat) : Prop where
  lo : 0 ≤ k
  hi : k ≤ 4
  zr : Zr k t o s b c r q n
  num : k = 1 → N
  txt : k = 2 → s.size ≤ 32767
theorem text_small {s : ByteArray} (h : textF s = 0) : s.size ≤ 32767 := by
  unfold textF at h
  split at h
  · cases h
  · omega
theorem check_flat (N : Prop) (k : Int) (t o s : ByteArray) (b : Bool) (c r q : Int) (p : Option Addr) (n cap : Nat) (hk : k ≠ 5) (hN : ∃ m e, exact_Check.f m t o = some e ∧ (e = 0 → N)) (hs : s.size ≤ maxLen) :
    ∃ e : Int, (∀ w, Wd w → Calls Tryz.prog 10 #[.agg #[.int .i64 k, .string t, .string o, .string s, .bool b, .int .i64 c, .int .i64 r, .int .i64 q, .slice p n cap]] w fun x w' => x = .returned (.int .i64 e) ∧ Below w.heap.size w w') ∧ (e = 0 → Ok N k t o s b c r q n) := by
  by_cases h0 : k < 0
  · exact ⟨8, fun w _ => check_lo k t o s b c r q p n cap h0 w, fun h => absurd h (by decide)⟩
  by_cases h5 : 5 < k
  · exact ⟨8, fun w _ => check_hi k t o s b c r q p n cap h5 w, fun h => absurd h (by decide)⟩
  obtain ⟨e, hz, hzr⟩ := zeros_any k ⟨by omega, by omega⟩ t o s b c r q p n cap
  by_cases he : e = 0
  · subst he
    have hzr := hzr rfl
    have : k = 0 ∨ k = 1 ∨ k = 2 ∨ k = 3 ∨ k = 4 := by omega
    rcases this with rfl | rfl | rfl | rfl | rfl
    · exact ⟨0, fun w hW => check_k0 t o s b c r q p n cap hz w hW, fun _ => ⟨by decide, by decide, hzr, fun h => absurd h (by decide), fun h => absurd h (by decide)⟩⟩
    · obtain ⟨m, e, hC, hn⟩ := hN
      exact ⟨e, fun w hW => check_k1 t o s b c r q p n cap m e hC hz w hW, fun h => ⟨by decide, by decide, hzr, fun _ => hn h, fun h => absurd h (by decide)⟩⟩
    · exact ⟨textF s, fun w hW => check_k2 t o s b c r q p n cap hs hz w hW, fun h => ⟨by decide, by decide, hzr, fun h => absurd h (by decide), fun _ => text_small h⟩⟩
    · exact ⟨0, fun w hW => check_k3 t o s b c r q p n cap hz w hW, fun _ => ⟨by decide, by decide, hzr, fun h => absurd h (by decide), fun h => absurd h (by decide)⟩⟩
    · obtain ⟨f, hf⟩ := fault_any c
      by_cases hq : f = ⟨#[]⟩
      · exact ⟨2, fun w hW => check_k4b t o s b c r q p n cap f hf hq hz w hW, fun h => absurd h (by decide)⟩
      · exact ⟨0, fun w hW => check_k4a t o s b c r q p n cap f hf hq hz w hW, fun _ => ⟨by decide, by decide, hzr, fun h => absurd h (by decide), fun h => absurd h (by decide)⟩⟩
  · exact ⟨e, fun w _ => check_bad k t o s b c r q p n cap h0 h5 e he hz w, fun h => absurd h he⟩
end Go.Proofs.YtckfdhnimmaeiaaGreatDoor.Pr
