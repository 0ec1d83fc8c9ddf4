/- value.Show of a number. -/
import Derived.Test.YtckfdhnimmaeiaaGreatDoorEd
namespace Go.Proofs.YtckfdhnimmaeiaaGreatDoor.Pr
open Go.RowKit Go.Proofs.YtckfdhnimmaeiaaGreatDoorW.PrintWords Go.Proofs.YtckfdhnimmaeiaaGreatDoorW.PrintLast Go.Proofs.YtckfdhnimmaeiaaGreatDoorW.PrintMore
set_option linter.unusedVariables false
set_option linter.unusedSimpArgs false
set_option maxHeartbeats 2000000 in
set_option maxRecDepth 100000 in
theorem decimal_yes (t o s : ByteArray) (k : Nat) (w : World) (hGl : Gl w) (hS : exact_Shortest.f k t o = some (s, true, 0)) (hs : s.size ≤ 40) :
    Calls Tryz.prog 56 #[.agg #[.string t, .string o]] w fun x w' => x = .returned (.string s) ∧ Below w.heap.size w w' := by
  have SC := Aside0.mk (fun w hGl => exact_Shortest.calls k t o s true 0 w hGl hS)
  have HG := Aside0.mk hGl
  have q : (s.size : Int) ≤ 40 := by omega
  clear hS hGl
  go_enter Tryz.func56, Tryz.ntmps56
  go_upto_region 1 with (fail)
  obtain ⟨g, hg⟩ : ∃ g, g = w.heap.size := ⟨_, rfl⟩
  have K := Aside0.mk (show (w.alloc (.cells #[.string t, .string o] 30)).heap[g]? = some (.cells #[.string t, .string o] 30 (0, 0)) from hg ▸ blk_new w _)
  have B := Aside0.mk (show Below w.heap.size w (w.alloc (.cells #[.string t, .string o] 30)) from climb)
  obtain ⟨W, hW⟩ : ∃ W, W = w.alloc (.cells #[.string t, .string o] 30) := ⟨_, rfl⟩
  rw [← hW] at K B ⊢
  rw [← hg]
  clear hW hg
  obtain ⟨c0, c1, _, _⟩ := fr_cells K.out
  go_wp2_with (first
    | (go_at_call 14; (with_reducible refine (SC.out _ (gl_below HG.out (bl B.out))).mono ?_); rintro _ w1 ⟨rfl, hb1⟩; have B_ := Aside0.mk (below_step (bl B.out) hb1); clear B hb1 c0 c1 K; have B := B_; clear B_))
  go_ret
  exact ⟨rfl, bl B.out⟩
set_option maxHeartbeats 2000000 in
set_option maxRecDepth 100000 in
theorem shown_num (t o s : ByteArray) (k : Nat) (w : World) (hGl : Gl w) (hS : exact_Shortest.f k t o = some (s, true, 0)) (hs : s.size ≤ 40) :
    Calls Tryz.prog 30 #[.agg #[.int .i64 1, .string t, .string o, .string ⟨#[]⟩, .bool false, .int .i64 0, .int .i64 0, .int .i64 0, .slice none 0 0]] w fun x w' => x = .returned (.string s) ∧ Below w.heap.size w w' := by
  have DC := Aside0.mk (fun w hGl => decimal_yes t o s k w hGl hS hs)
  have HG := Aside0.mk hGl
  clear hS hGl hs
  go_enter Tryz.func30, Tryz.ntmps30
  go_upto_region 1 with (fail)
  obtain ⟨g, W, hg, hW, K, B⟩ := box33 w (zv 1 t o ⟨#[]⟩ false 0 0 0 none 0 0)
  rw [hW, hg]
  clear hW hg
  obtain ⟨c0, c1, c2, c3, c4, c5, c6, c7, c8⟩ := num_cells K.out
  go_wp2_with (first
    | (go_at_call 56; (with_reducible refine (DC.out _ (gl_below HG.out (bl B.out))).mono ?_); rintro _ w1 ⟨rfl, hb1⟩; have B_ := Aside0.mk (below_step (bl B.out) hb1); clear B hb1; have B := B_; clear B_))
  go_ret
  exact ⟨rfl, bl B.out⟩
set_option maxHeartbeats 2000000 in
set_option maxRecDepth 100000 in
theorem show_num (t o s : ByteArray) (k : Nat) (w : World) (hGl : Gl w) (hC : exact_Check.f k t o = some 0) (hS : exact_Shortest.f k t o = some (s, true, 0)) (hs : s.size ≤ 40) :
    Calls Tryz.prog 13 #[.agg #[.int .i64 1, .string t, .string o, .string ⟨#[]⟩, .bool false, .int .i64 0, .int .i64 0, .int .i64 0, .slice none 0 0]] w fun x w' => x = .returned (.tuple #[.string s, .int .i64 0]) ∧ Below w.heap.size w w' := by
  have CC := Aside0.mk (fun w hGl => check_num t o k w hGl hC)
  have DC := Aside0.mk (fun w hGl => shown_num t o s k w hGl hS hs)
  have HG := Aside0.mk hGl
  clear hS hGl hs hC
  go_enter Tryz.func13, Tryz.ntmps13
  go_upto_region 1 with (fail)
  obtain ⟨g, W, hg, hW, K, B⟩ := box33 w (zv 1 t o ⟨#[]⟩ false 0 0 0 none 0 0)
  rw [hW, hg]
  clear hW hg
  obtain ⟨c0, c1, c2, c3, c4, c5, c6, c7, c8⟩ := num_cells K.out
  go_wp2_with (first
    | (go_at_call 10; (with_reducible refine (CC.out _ (gl_below HG.out (bl B.out))).mono ?_); rintro _ w1 ⟨rfl, hb1⟩; have B_ := Aside0.mk (below_step (bl B.out) hb1); have K_ := Aside0.mk (blk_below (blk_below K.out climb) hb1); clear B K hb1 c0 c1 c2 c3 c4 c5 c6 c7 c8; have B := B_; have K := K_; clear B_ K_; obtain ⟨c0, c1, c2, c3, c4, c5, c6, c7, c8⟩ := num_cells K.out)
    | (go_at_call 30; (with_reducible refine (DC.out _ (gl_below HG.out (bl B.out))).mono ?_); rintro _ w1 ⟨rfl, hb1⟩; have B_ := Aside0.mk (below_step (bl B.out) hb1); clear B hb1; have B := B_; clear B_))
  go_ret2
  exact ⟨rfl, bl B.out⟩
end Go.Proofs.YtckfdhnimmaeiaaGreatDoor.Pr
