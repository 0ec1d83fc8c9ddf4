/- value.Enter at the text of the guard. -/
import Derived.Test.YtckfdhnimmaeiaaGreatDoorEc
import Derived.Test.YtckfdhnimmaeiaaGreatDoorEe
import Derived.Test.YtckfdhnimmaeiaaGreatDoorEf
namespace Go.Proofs.YtckfdhnimmaeiaaGreatDoor.Pr
open Go.RowKit Go.Proofs.YtckfdhnimmaeiaaGreatDoorW.PrintWords Go.Proofs.YtckfdhnimmaeiaaGreatDoorW.PrintLast Go.Proofs.YtckfdhnimmaeiaaGreatDoorW.PrintMore
set_option linter.unusedVariables false
set_option linter.unusedSimpArgs false
theorem ix78 (cs : Array Value) (e : Nat) (he : e < 9) (v : Value) (hv : cs[e]? = some v) (W : World) : (Instr.index 78 (.agg cs) (.int .i64 (e : Int))).run Tryz.prog W = .ok v W := by
  have hu : Tryz.prog.underlying 78 = some (.array 9 9) := Tryz.underlying78
  have h0 : (0 : Int) ≤ (e : Int) ∧ (e : Int) < 9 := by omega
  have hz := Tryz.sizeOf9
  have ha := Tryz.isAgg9
  simp [Instr.index, run_underlying hu, asIntOf, go_sem, h0, part, hz, ha, hv]
  intro h
  omega
theorem ix80_0 (W : World) : (Instr.index 80 (.agg #[.func (.func 44) #[] #[], .func (.func 45) #[] #[], .func (.func 46) #[] #[], .func (.func 47) #[] #[], .func (.func 48) #[] #[]]) (.int .i64 0)).run Tryz.prog W = .ok (.func (.func 44) #[] #[]) W := by kernel_rfl
theorem ix80_1 (W : World) : (Instr.index 80 (.agg #[.func (.func 44) #[] #[], .func (.func 45) #[] #[], .func (.func 46) #[] #[], .func (.func 47) #[] #[], .func (.func 48) #[] #[]]) (.int .i64 1)).run Tryz.prog W = .ok (.func (.func 45) #[] #[]) W := by kernel_rfl
theorem ix80_2 (W : World) : (Instr.index 80 (.agg #[.func (.func 44) #[] #[], .func (.func 45) #[] #[], .func (.func 46) #[] #[], .func (.func 47) #[] #[], .func (.func 48) #[] #[]]) (.int .i64 2)).run Tryz.prog W = .ok (.func (.func 46) #[] #[]) W := by kernel_rfl
/-- The names of the error values, as value.faults has them. -/
def faultsL : List ByteArray := [⟨#[]⟩, ⟨#[35, 68, 73, 86, 47, 48, 33]⟩, ⟨#[35, 86, 65, 76, 85, 69, 33]⟩, ⟨#[35, 82, 69, 70, 33]⟩, ⟨#[35, 78, 65, 77, 69, 63]⟩, ⟨#[35, 78, 85, 77, 33]⟩, ⟨#[35, 78, 47, 65]⟩, ⟨#[35, 83, 80, 73, 76, 76, 33]⟩, ⟨#[35, 67, 89, 67, 76, 69, 33]⟩]
/-- They lie in memory. -/
def Fs (w : World) : Prop := ∀ i f, faultsL[i]? = some f → w.cell? ⟨0, i, none⟩ = some (.string f)
theorem Fs.below {w w' : World} (h : Fs w) (k : Below w.heap.size w w') : Fs w' := fun i f e => (k.cell (World.block_lt_of_cell? w _ (h i f e))).trans (h i f e)
theorem Fs.nine {w : World} (h : Fs w) : ∃ f0 f1 f2 f3 f4 f5 f6 f7 f8 : ByteArray, w.cell? ⟨0, 0, none⟩ = some (.string f0) ∧ w.cell? ⟨0, 1, none⟩ = some (.string f1) ∧ w.cell? ⟨0, 2, none⟩ = some (.string f2) ∧ w.cell? ⟨0, 3, none⟩ = some (.string f3) ∧ w.cell? ⟨0, 4, none⟩ = some (.string f4) ∧ w.cell? ⟨0, 5, none⟩ = some (.string f5) ∧ w.cell? ⟨0, 6, none⟩ = some (.string f6) ∧ w.cell? ⟨0, 7, none⟩ = some (.string f7) ∧ w.cell? ⟨0, 8, none⟩ = some (.string f8) ∧ ∀ e, e < 9 → ∃ f, (#[.string f0, .string f1, .string f2, .string f3, .string f4, .string f5, .string f6, .string f7, .string f8] : Array Value)[e]? = some (Value.string f) ∧ (s0.toList == f.toList) = false := by
  refine ⟨_, _, _, _, _, _, _, _, _, h 0 _ rfl, h 1 _ rfl, h 2 _ rfl, h 3 _ rfl, h 4 _ rfl, h 5 _ rfl, h 6 _ rfl, h 7 _ rfl, h 8 _ rfl, fun e he => ?_⟩
  have : e = 0 ∨ e = 1 ∨ e = 2 ∨ e = 3 ∨ e = 4 ∨ e = 5 ∨ e = 6 ∨ e = 7 ∨ e = 8 := by omega
  rcases this with rfl | rfl | rfl | rfl | rfl | rfl | rfl | rfl | rfl <;> exact ⟨_, rfl, by decide +kernel⟩
set_option maxHeartbeats 4000000 in
set_option maxRecDepth 100000 in
theorem enter_c (w : World) (hGl : Gl w) (hF : Fs w) :
    Calls Tryz.prog 15 #[.string s0] w fun x w' => x = .returned (.agg #[.int .i64 1, .string s2, .string s1, .string ⟨#[]⟩, .bool false, .int .i64 0, .int .i64 0, .int .i64 0, .slice none 0 0]) ∧ Below w.heap.size w w' := by
  have TC := Aside0.mk (fun w => text_plain s0 w (by decide) (fun b hb => by revert b; decide))
  have PC := Aside0.mk (fun w hGl => strings_CutPrefix.calls s0 ⟨#[39]⟩ s0 false w hGl (by decide +kernel))
  have LC := Aside0.mk (fun w => lower_plain s0 w (by decide) (by decide))
  have N1 := Aside0.mk number_c
  have M1 := Aside0.mk mixed_c
  have D1 := Aside0.mk date_c
  have VC := Aside0.mk (fun w hGl => number_val s2 s1 20 w hGl (by decide +kernel))
  have HG := Aside0.mk hGl
  have HF := Aside0.mk hF
  have HN := Aside0.mk (fun w (h : Fs w) => h.nine)
  have q1 : s0.toList.isEmpty = false := by decide +kernel
  have q2 : (s0.toList == [116, 114, 117, 101]) = false := by decide +kernel
  have q3 : (s0.toList == [102, 97, 108, 115, 101]) = false := by decide +kernel
  obtain ⟨S, hS⟩ : ∃ S, S = s0 := ⟨_, rfl⟩
  obtain ⟨t, ht⟩ : ∃ t, t = s2 := ⟨_, rfl⟩
  obtain ⟨o, ho⟩ : ∃ o, o = s1 := ⟨_, rfl⟩
  rw [← hS] at TC PC LC N1 M1 D1 HN q1 q2 q3 ⊢
  rw [← ht, ← ho] at D1 VC ⊢
  clear hS ht ho hGl hF
  go_enter Tryz.func15, Tryz.ntmps15
  go_upto_region 1 with (fail)
  obtain ⟨g, hg⟩ : ∃ g, g = w.heap.size := ⟨_, rfl⟩
  have K := Aside0.mk (show (w.alloc (.cells (zv 0 ⟨#[]⟩ ⟨#[]⟩ ⟨#[]⟩ false 0 0 0 none 0 0) 33)).heap[g]? = some (.cells (zv 0 ⟨#[]⟩ ⟨#[]⟩ ⟨#[]⟩ false 0 0 0 none 0 0) 33 (0, 0)) from hg ▸ blk_new w _)
  have B := Aside0.mk (show Below w.heap.size w (w.alloc (.cells (zv 0 ⟨#[]⟩ ⟨#[]⟩ ⟨#[]⟩ false 0 0 0 none 0 0) 33)) from climb)
  obtain ⟨W, hW⟩ : ∃ W, W = w.alloc (.cells (zv 0 ⟨#[]⟩ ⟨#[]⟩ ⟨#[]⟩ false 0 0 0 none 0 0) 33) := ⟨_, rfl⟩
  rw [← hW] at K B ⊢
  rw [← hg]
  have HGG := Aside0.mk (show w.heap.size ≤ g by omega)
  clear hW hg
  go_upto_region 11 with (first
    | (go_at_call 20; (with_reducible refine (TC.out _).mono ?_); rintro _ w1 ⟨rfl, hb1⟩; have B_ := Aside0.mk (below_step (bl B.out) hb1); have K_ := Aside0.mk (blk_below (blk_below K.out climb) hb1); clear B K hb1; have B := B_; have K := K_; clear B_ K_)
    | (go_at_call 40; (with_reducible refine (PC.out _ (gl_below HG.out (bl B.out))).mono ?_); rintro _ w1 ⟨rfl, hd1⟩; have hb1 := hd1.below; have B_ := Aside0.mk (below_step (bl B.out) hb1); have K_ := Aside0.mk (blk_below (blk_below K.out climb) hb1); clear B K hb1 hd1; have B := B_; have K := K_; clear B_ K_)
    | (go_at_call 42; (with_reducible refine (LC.out _).mono ?_); rintro _ w1 ⟨rfl, hb1⟩; have B_ := Aside0.mk (below_step (bl B.out) hb1); have K_ := Aside0.mk (blk_below (blk_below K.out climb) hb1); clear B K hb1; have B := B_; have K := K_; clear B_ K_))
  obtain ⟨f0, f1, f2, f3, f4, f5, f6, f7, f8, n0, n1, n2, n3, n4, n5, n6, n7, n8, hall⟩ := HN.out _ (HF.out.below B.out)
  have HALL := Aside0.mk hall
  clear hall
  go_wp2_with (fail)
  go_loopg [39] 9 (fun kq v39 w' => ∃ (e : Nat), v39 = .int .i64 (e : Int) ∧ e + kq = 9 ∧ Aside0 (w'.heap[g]? = some (.cells (zv 0 ⟨#[]⟩ ⟨#[]⟩ ⟨#[]⟩ false 0 0 0 none 0 0) 33 (0, 0))) ∧ Aside0 (Below w.heap.size w w'))
  case atStart => exact ⟨0, rfl, rfl, ⟨blk_below K.out climb⟩, ⟨bl B.out⟩⟩
  case round =>
    clear K B n0 n1 n2 n3 n4 n5 n6 n7 n8
    obtain ⟨e, rfl, hk, K, B⟩ := hrel
    by_cases he : e < 9
    · obtain ⟨g1, hg1⟩ : ∃ g1, gk = g1 + 1 := ⟨gk - 1, by omega⟩
      have HG1 := Aside0.mk hg1
      clear hg1
      obtain ⟨f, hf, hq⟩ := HALL.out e he
      have hix : ∀ W, (Instr.index 78 (.agg #[.string f0, .string f1, .string f2, .string f3, .string f4, .string f5, .string f6, .string f7, .string f8]) (.int .i64 (e : Int))).run Tryz.prog W = .ok (.string f) W := fun W => ix78 _ e he _ hf W
      clear hf
      by_cases hpos : 0 < (e : Int)
      · go_wp2
        go_roundg g1
        case measure => have := HG1.out; omega
        case rel => have := HG1.out; exact ⟨e + 1, by go_num, by omega, ⟨blk_below K.out climb⟩, ⟨bl B.out⟩⟩
      · go_wp2
        go_roundg g1
        case measure => have := HG1.out; omega
        case rel => have := HG1.out; exact ⟨e + 1, by go_num, by omega, ⟨blk_below K.out climb⟩, ⟨bl B.out⟩⟩
    · clear HALL
      go_wp2_with (fail)
      go_loopg [54] 3 (fun kq v54 w' => ∃ (e : Nat), v54 = .int .i64 (e : Int) ∧ e + kq = 3 ∧ e ≤ 2 ∧ Aside0 (w'.heap[g]? = some (.cells (zv 0 ⟨#[]⟩ ⟨#[]⟩ ⟨#[]⟩ false 0 0 0 none 0 0) 33 (0, 0))) ∧ Aside0 (Below w.heap.size w w'))
      case atStart => exact ⟨0, rfl, rfl, by omega, ⟨blk_below K.out climb⟩, ⟨bl B.out⟩⟩
      case round =>
        clear K B
        obtain ⟨e, rfl, hk, he2, K, B⟩ := hrel
        have hx0 := ix80_0
        have hx1 := ix80_1
        have hx2 := ix80_2
        have : e = 0 ∨ e = 1 ∨ e = 2 := by omega
        rcases this with rfl | rfl | rfl
        · clear hx1 hx2
          obtain ⟨a, b, hN⟩ := N1.out wr (gl_below HG.out B.out)
          have HNN := Aside0.mk hN
          clear hN
          go_wp2_with (first
            | (go_at_call 44; (with_reducible refine HNN.out.mono ?_); rintro _ w1 ⟨rfl, hb1⟩; have B_ := Aside0.mk (below_step (bl B.out) hb1); have K_ := Aside0.mk (blk_below (blk_below K.out climb) hb1); clear B K hb1 HNN; have B := B_; have K := K_; clear B_ K_))
          go_roundg (gk - 1)
          case measure => omega
          case rel => exact ⟨1, by go_num, by omega, by omega, ⟨blk_below K.out climb⟩, ⟨bl B.out⟩⟩
        · clear hx0 hx2
          go_wp2_with (first
            | (go_at_call 45; (with_reducible refine (M1.out _ (gl_below HG.out B.out)).mono ?_); rintro _ w1 ⟨rfl, hb1⟩; have B_ := Aside0.mk (below_step (bl B.out) hb1); have K_ := Aside0.mk (blk_below (blk_below K.out climb) hb1); clear B K hb1; have B := B_; have K := K_; clear B_ K_))
          go_roundg (gk - 1)
          case measure => omega
          case rel => exact ⟨2, by go_num, by omega, by omega, ⟨blk_below K.out climb⟩, ⟨bl B.out⟩⟩
        · clear hx0 hx1
          go_upto_region 22 with (first
            | (go_at_call 46; (with_reducible refine (D1.out _ (gl_below HG.out B.out)).mono ?_); rintro _ w1 ⟨rfl, hb1⟩; have B_ := Aside0.mk (below_step (bl B.out) hb1); have K_ := Aside0.mk (blk_below (blk_below K.out climb) hb1); clear B K hb1; have B := B_; have K := K_; clear B_ K_))
          have K2 := Aside0.mk (blk_alloc K.out (.cells #[.string t, .string o] 30))
          have K3 := Aside0.mk (blk_new w1 (.cells #[.string t, .string o] 30))
          have B2 := Aside0.mk (show Below w.heap.size w (w1.alloc (.cells #[.string t, .string o] 30)) from below_step B.out climb)
          obtain ⟨W2, hW2⟩ : ∃ W2, W2 = w1.alloc (.cells #[.string t, .string o] 30) := ⟨_, rfl⟩
          rw [← hW2] at K2 K3 B2 ⊢
          clear hW2 K B
          obtain ⟨m0, m1, _, _⟩ := fr_cells K3.out
          go_wp2_with (first
            | (go_at_call 49; (with_reducible refine (VC.out _ (gl_below HG.out (bl B2.out))).mono ?_); rintro _ w2 ⟨rfl, hb1⟩; have B_ := Aside0.mk (below_step (bl B2.out) hb1); have K_ := Aside0.mk (blk_below (blk_below K2.out climb) hb1); clear B2 K2 K3 hb1 m0 m1; have B := B_; have K := K_; clear B_ K_; obtain ⟨y0, y1, y2, y3, y4, y5, y6, y7, y8, z0, z1, z2, z3, z4, z5, z6, z7, z8⟩ := zer_cells K.out))
          refine bodyPost_ret (results_cell_row rfl _ _ g 33 (zv 1 t o ⟨#[]⟩ false 0 0 0 none 0 0) (0, 0) _ rfl (blk_put (cs := (zv 1 t o ⟨#[]⟩ false 0 0 0 none 0 0)) (blk_put (cs := (zv 1 t o ⟨#[]⟩ false 0 0 0 none 0 0)) (blk_put (cs := (zv 1 t o ⟨#[]⟩ false 0 0 0 none 0 0)) (blk_put (cs := (zv 1 t o ⟨#[]⟩ false 0 0 0 none 0 0)) (blk_put (cs := (zv 1 t o ⟨#[]⟩ false 0 0 0 none 0 0)) (blk_put (cs := (zv 1 t o ⟨#[]⟩ false 0 0 0 none 0 0)) (blk_put (cs := (zv 1 t ⟨#[]⟩ ⟨#[]⟩ false 0 0 0 none 0 0)) (blk_put (cs := (zv 1 ⟨#[]⟩ ⟨#[]⟩ ⟨#[]⟩ false 0 0 0 none 0 0)) (blk_put (cs := (zv 0 ⟨#[]⟩ ⟨#[]⟩ ⟨#[]⟩ false 0 0 0 none 0 0)) K.out 0 _ rfl) 1 _ rfl) 2 _ rfl) 3 _ rfl) 4 _ rfl) 5 _ rfl) 6 _ rfl) 7 _ rfl) 8 _ rfl) Tryz.underlying33 rfl (by kernel_rfl)) rfl ?_
          have hs := HGG.out
          exact ⟨rfl, below_set (below_set (below_set (below_set (below_set (below_set (below_set (below_set (below_set B.out hs) hs) hs) hs) hs) hs) hs) hs) hs⟩
end Go.Proofs.YtckfdhnimmaeiaaGreatDoor.Pr
