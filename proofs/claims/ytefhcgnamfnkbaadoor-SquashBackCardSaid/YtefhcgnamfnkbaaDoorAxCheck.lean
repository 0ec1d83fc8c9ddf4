-- Written by a program of this session (wip/tools) for this claim.
import Derived.Test.YtefhcgnamfnkbaaDoorAxS
namespace Go.Proofs.YtefhcgnamfnkbaaDoor.Pr
open Go.RowKit Go.Proofs.YtefhcgnamfnkbaaDoorW.PrintWords Go.Proofs.YtefhcgnamfnkbaaDoorW.PrintLast Go.Proofs.YtefhcgnamfnkbaaDoorW.PrintMore
attribute [local go_sem] max2_int min2_int max_two min_two max_three min_three max_four min_four   -- for this text's walks alone
set_option linter.unusedVariables false
set_option linter.unusedSimpArgs false

/-! ### axis_Check: function 61 -/
mutual
def axis_Check.l0 : Nat → List (S127) → Int → Int → List (S127) → Int → Int → Option (Int)
  | 0, _, _, _, _, _, _ => none
  | k + 1, x0, x3, x4, x7, x8, x9 => if x9 < x8 then (if 0 ≤ x9 then (if x9 < (x7.length : Int) then (if ((rd_T127 x7 x9).f0) < 0 then (axis_Check.j1 k x0 x3 x4 x9 x7 x8 x9 true ((rd_T127 x7 x9).f0) ((rd_T127 x7 x9).f1)) else (axis_Check.j1 k x0 x3 x4 x9 x7 x8 x9 (decide (((rd_T127 x7 x9).f0) > 2)) ((rd_T127 x7 x9).f0) ((rd_T127 x7 x9).f1))) else (none)) else (none)) else (if x3 > 2147483647 then (some 3) else (if x4 > 2147483647 then (some 3) else (some 0)))
def axis_Check.j3 : Nat → List (S127) → Int → Int → List (S127) → Int → Int → Int → Int → Option (Int)
  | 0, _, _, _, _, _, _, _, _ => none
  | k + 1, x0, x3, x4, x7, x8, x9, x103000, x103001 => if x103000 = 1 then (if x103000 = 2 then (axis_Check.l0 k x0 x3 x4 x7 x8 (wrap64 (x9 + 1))) else (axis_Check.l0 k x0 x3 (mn (wrap64 (x4 + x103001)) 2147483648) x7 x8 (wrap64 (x9 + 1)))) else (if x103000 = 2 then (axis_Check.l0 k x0 (mn (wrap64 (x3 + x103001)) 2147483648) x4 x7 x8 (wrap64 (x9 + 1))) else (axis_Check.l0 k x0 (mn (wrap64 (x3 + x103001)) 2147483648) (mn (wrap64 (x4 + x103001)) 2147483648) x7 x8 (wrap64 (x9 + 1))))
def axis_Check.j1 : Nat → List (S127) → Int → Int → Int → List (S127) → Int → Int → Bool → Int → Int → Option (Int)
  | 0, _, _, _, _, _, _, _, _, _, _ => none
  | k + 1, x0, x3, x4, x5, x7, x8, x9, x14, x103000, x103001 => if x14 = true then (some 8) else (if x103001 < 1 then (axis_Check.j2 k x0 x3 x4 x5 x7 x8 x9 true x103000 x103001) else (axis_Check.j2 k x0 x3 x4 x5 x7 x8 x9 (decide (x103001 > 2147483647)) x103000 x103001))
def axis_Check.j2 : Nat → List (S127) → Int → Int → Int → List (S127) → Int → Int → Bool → Int → Int → Option (Int)
  | 0, _, _, _, _, _, _, _, _, _, _ => none
  | k + 1, x0, x3, x4, x5, x7, x8, x9, x23, x103000, x103001 => if x23 = true then (some 2) else (if x5 > 0 then (if 0 ≤ (wrap64 (x5 - 1)) then (if (wrap64 (x5 - 1)) < (x0.length : Int) then (if ((rd_T127 x0 (wrap64 (x5 - 1))).f0) = x103000 then (some 5) else (if ((rd_T127 x0 (wrap64 (x5 - 1))).f0) = 2 then (if x103000 = 1 then (some 5) else (axis_Check.j3 k x0 x3 x4 x7 x8 x9 x103000 x103001)) else (axis_Check.j3 k x0 x3 x4 x7 x8 x9 x103000 x103001))) else (none)) else (none)) else (axis_Check.j3 k x0 x3 x4 x7 x8 x9 x103000 x103001))
end
def axis_Check.f (k : Nat) (l0 : List (S127)) : Option (Int) := axis_Check.l0 k l0 0 0 l0 (l0.length : Int) 0
theorem axis_Check.mono_l : ∀ k, (∀ y0 y1 y2 y3 y4 y5, LeO (axis_Check.l0 k y0 y1 y2 y3 y4 y5) (axis_Check.l0 (k + 1) y0 y1 y2 y3 y4 y5)) ∧ (∀ y0 y1 y2 y3 y4 y5 y6 y7, LeO (axis_Check.j3 k y0 y1 y2 y3 y4 y5 y6 y7) (axis_Check.j3 (k + 1) y0 y1 y2 y3 y4 y5 y6 y7)) ∧ (∀ y0 y1 y2 y3 y4 y5 y6 y7 y8 y9, LeO (axis_Check.j1 k y0 y1 y2 y3 y4 y5 y6 y7 y8 y9) (axis_Check.j1 (k + 1) y0 y1 y2 y3 y4 y5 y6 y7 y8 y9)) ∧ (∀ y0 y1 y2 y3 y4 y5 y6 y7 y8 y9, LeO (axis_Check.j2 k y0 y1 y2 y3 y4 y5 y6 y7 y8 y9) (axis_Check.j2 (k + 1) y0 y1 y2 y3 y4 y5 y6 y7 y8 y9))
  | 0 => ⟨fun _ _ _ _ _ _ r h => by simp [axis_Check.l0] at h, fun _ _ _ _ _ _ _ _ r h => by simp [axis_Check.j3] at h, fun _ _ _ _ _ _ _ _ _ _ r h => by simp [axis_Check.j1] at h, fun _ _ _ _ _ _ _ _ _ _ r h => by simp [axis_Check.j2] at h⟩
  | k + 1 => by
    obtain ⟨ih0, ih1, ih2, ih3⟩ := axis_Check.mono_l k
    refine ⟨?_, ?_, ?_, ?_⟩
    · intro y0 y1 y2 y3 y4 y5
      unfold axis_Check.l0
      repeat' first
      | (with_reducible exact ih0 _ _ _ _ _ _)
      | (with_reducible exact ih1 _ _ _ _ _ _ _ _)
      | (with_reducible exact ih2 _ _ _ _ _ _ _ _ _ _)
      | (with_reducible exact ih3 _ _ _ _ _ _ _ _ _ _)
      | (with_reducible exact LeO.refl _)
      | (with_reducible exact LeO.none _)
      | (with_reducible refine LeO.ite ?_ ?_)
      | (with_reducible refine LeO.bind ?_ (fun _ => ?_))
      | exact ih0 _ _ _ _ _ _
      | exact ih1 _ _ _ _ _ _ _ _
      | exact ih2 _ _ _ _ _ _ _ _ _ _
      | exact ih3 _ _ _ _ _ _ _ _ _ _
      | exact LeO.none _
      | refine LeO.ite ?_ ?_
      | refine LeO.bind ?_ (fun _ => ?_)
    · intro y0 y1 y2 y3 y4 y5 y6 y7
      unfold axis_Check.j3
      repeat' first
      | (with_reducible exact ih0 _ _ _ _ _ _)
      | (with_reducible exact ih1 _ _ _ _ _ _ _ _)
      | (with_reducible exact ih2 _ _ _ _ _ _ _ _ _ _)
      | (with_reducible exact ih3 _ _ _ _ _ _ _ _ _ _)
      | (with_reducible exact LeO.refl _)
      | (with_reducible exact LeO.none _)
      | (with_reducible refine LeO.ite ?_ ?_)
      | (with_reducible refine LeO.bind ?_ (fun _ => ?_))
      | exact ih0 _ _ _ _ _ _
      | exact ih1 _ _ _ _ _ _ _ _
      | exact ih2 _ _ _ _ _ _ _ _ _ _
      | exact ih3 _ _ _ _ _ _ _ _ _ _
      | exact LeO.none _
      | refine LeO.ite ?_ ?_
      | refine LeO.bind ?_ (fun _ => ?_)
    · intro y0 y1 y2 y3 y4 y5 y6 y7 y8 y9
      unfold axis_Check.j1
      repeat' first
      | (with_reducible exact ih0 _ _ _ _ _ _)
      | (with_reducible exact ih1 _ _ _ _ _ _ _ _)
      | (with_reducible exact ih2 _ _ _ _ _ _ _ _ _ _)
      | (with_reducible exact ih3 _ _ _ _ _ _ _ _ _ _)
      | (with_reducible exact LeO.refl _)
      | (with_reducible exact LeO.none _)
      | (with_reducible refine LeO.ite ?_ ?_)
      | (with_reducible refine LeO.bind ?_ (fun _ => ?_))
      | exact ih0 _ _ _ _ _ _
      | exact ih1 _ _ _ _ _ _ _ _
      | exact ih2 _ _ _ _ _ _ _ _ _ _
      | exact ih3 _ _ _ _ _ _ _ _ _ _
      | exact LeO.none _
      | refine LeO.ite ?_ ?_
      | refine LeO.bind ?_ (fun _ => ?_)
    · intro y0 y1 y2 y3 y4 y5 y6 y7 y8 y9
      unfold axis_Check.j2
      repeat' first
      | (with_reducible exact ih0 _ _ _ _ _ _)
      | (with_reducible exact ih1 _ _ _ _ _ _ _ _)
      | (with_reducible exact ih2 _ _ _ _ _ _ _ _ _ _)
      | (with_reducible exact ih3 _ _ _ _ _ _ _ _ _ _)
      | (with_reducible exact LeO.refl _)
      | (with_reducible exact LeO.none _)
      | (with_reducible refine LeO.ite ?_ ?_)
      | (with_reducible refine LeO.bind ?_ (fun _ => ?_))
      | exact ih0 _ _ _ _ _ _
      | exact ih1 _ _ _ _ _ _ _ _
      | exact ih2 _ _ _ _ _ _ _ _ _ _
      | exact ih3 _ _ _ _ _ _ _ _ _ _
      | exact LeO.none _
      | refine LeO.ite ?_ ?_
      | refine LeO.bind ?_ (fun _ => ?_)
theorem axis_Check.mono : ∀ a0 k, LeO (axis_Check.f k a0) (axis_Check.f (k + 1) a0) := by
  intro a0 k
  obtain ⟨ih0, ih1, ih2, ih3⟩ := axis_Check.mono_l k
  unfold axis_Check.f
  repeat' first
      | (with_reducible exact ih0 _ _ _ _ _ _)
      | (with_reducible exact ih1 _ _ _ _ _ _ _ _)
      | (with_reducible exact ih2 _ _ _ _ _ _ _ _ _ _)
      | (with_reducible exact ih3 _ _ _ _ _ _ _ _ _ _)
      | (with_reducible exact LeO.refl _)
      | (with_reducible exact LeO.none _)
      | (with_reducible refine LeO.ite ?_ ?_)
      | (with_reducible refine LeO.bind ?_ (fun _ => ?_))
      | exact ih0 _ _ _ _ _ _
      | exact ih1 _ _ _ _ _ _ _ _
      | exact ih2 _ _ _ _ _ _ _ _ _ _
      | exact ih3 _ _ _ _ _ _ _ _ _ _
      | exact LeO.none _
      | refine LeO.ite ?_ ?_
      | refine LeO.bind ?_ (fun _ => ?_)
set_option maxHeartbeats 8000000 in
set_option maxRecDepth 100000 in
theorem axis_Check.calls (k : Nat) (A0 : Option Addr) (c0 : Nat) (l0 : List (S127)) (r : Int) (w : World) (hr0 : Kd.C k127 w A0 l0.length l0) (hc0 : l0.length ≤ c0) (hGl : Gl w) (h : axis_Check.f k l0 = some r) :
    Calls Tryd.prog 61 #[.slice A0 l0.length c0] w fun e w' => e = .returned (.int .i64 r) ∧ Below w.heap.size w w' := by
 have hu127 := Tryd.underlying127
 have HR0 := Aside0.mk hr0
 have HC0 := Aside0.mk hc0
 clear hr0 hc0
 have HB := Aside0.mk (Below.refl w.heap.size w)
 have H : (axis_Check.l0 k l0 0 0 l0 (l0.length : Int) 0) = some r := h
 clear h
 have H' := Aside0.mk H
 clear H
 go_enter Tryd.func61, Tryd.ntmps61
 go_wp2
 repeat (go_quiet (fail); try go_wp2)
 go_loopg [3, 4, 9] k (fun kq v3 v4 v9 w' => ∃ (x3_1 : Int) (x4_1 : Int) (x9_1 : Int), v3 = .int .i64 x3_1 ∧ v4 = .int .i64 x4_1 ∧ v9 = .int .i64 x9_1 ∧ Aside0 (axis_Check.l0 kq l0 x3_1 x4_1 l0 (l0.length : Int) x9_1 = some r) ∧ Aside0 (kq ≤ k) ∧ Aside0 (Below w.heap.size w w'))
 case atStart => exact ⟨(0), (0), (0), (by first | rfl | (simp; done) | (simp [*]; done)), (by first | rfl | (simp; done) | (simp [*]; done)), (by first | rfl | (simp; done) | (simp [*]; done)), H', ⟨Nat.le_refl _⟩, ⟨bl HB.out⟩⟩
 case round =>
  clear H'
  obtain ⟨x3_1, x4_1, x9_1, rfl, rfl, rfl, HA, HK1, HB⟩ := hrel
  cases gk with
  | zero => exact absurd HA.out (by simp [axis_Check.l0])
  | succ k1 =>
   have H := HA.out
   clear HA
   simp only [axis_Check.l0] at H
   by_cases c2 : x9_1 < (l0.length : Int)
   ·rw [if_pos c2] at H
    have c2b0 : decide (x9_1 < (l0.length : Int)) = true := decide_eq_true c2
    clear c2
    by_cases c3 : 0 ≤ x9_1
    ·rw [if_pos c3] at H
     have c3b0 : decide (0 ≤ x9_1) = true := decide_eq_true c3
     clear c3
     by_cases c4 : x9_1 < (l0.length : Int)
     ·rw [if_pos c4] at H
      have c4b0 : decide (x9_1 < (l0.length : Int)) = true := decide_eq_true c4
      clear c4
      have HC5 := Aside0.mk H
      clear H
      have p101 : 0 ≤ (x9_1 : Int) := of_decide_eq_true (by first | (with_reducible assumption) | assumption)
      have q101 : x9_1 < (l0.length : Int) := of_decide_eq_true (by first | (with_reducible assumption) | assumption)
      obtain ⟨ad101, e101, hx101_0, hx101_1⟩ := at_T127 HR0.out x9_1 p101 q101
      cases e101
      replace hx101_0 := (HB.out.cell (World.block_lt_of_cell? w _ hx101_0)).trans hx101_0
      replace hx101_1 := (HB.out.cell (World.block_lt_of_cell? w _ hx101_1)).trans hx101_1
      replace p101 := eq_true p101
      replace q101 := eq_true q101
      go_upto_block 2 with (first | ((with_reducible refine gate_dst (N := 6) rfl ?_); refine box_event ?hg (N := 6) ?hd (cs := #[.int .i64 0, .int .i64 0]) (t := 127) ?hr ?_; (case hd => rfl); (case hg => rfl); (case hr => first | (go_simp; done) | (go_simp; rfl)); intro gb102 hg w6 hbox hb; have n0_ := Aside0.mk (below_step (bl HB.out) hb); have n1_ := Aside0.mk (hbox); have n2_ := Aside0.mk (szg hg (bl HB.out)); have n3_ := Aside0.mk (szg hg (bl HB.out)); clear HB; have HB := n0_; have BK102 := n1_; have GW102 := n2_; have GE102 := n3_; clear n0_ n1_ n2_ n3_; clear hb hbox hg; have hcz7_0 : w6.cell? ⟨gb102, 0, none⟩ = some (.int .i64 0) := (blk_cell BK102.out 0).trans rfl; have hcz7_1 : w6.cell? ⟨gb102, 1, none⟩ = some (.int .i64 0) := (blk_cell BK102.out 1).trans rfl; have hfz7_0 := blk_frozen BK102.out 0; have hfz7_1 := blk_frozen BK102.out 1))
      repeat (go_quiet (first | ((with_reducible refine gate_dst (N := 6) rfl ?_); refine box_event ?hg (N := 6) ?hd (cs := #[.int .i64 0, .int .i64 0]) (t := 127) ?hr ?_; (case hd => rfl); (case hg => rfl); (case hr => first | (go_simp; done) | (go_simp; rfl)); intro gb102 hg w6 hbox hb; have n0_ := Aside0.mk (below_step (bl HB.out) hb); have n1_ := Aside0.mk (hbox); have n2_ := Aside0.mk (szg hg (bl HB.out)); have n3_ := Aside0.mk (szg hg (bl HB.out)); clear HB; have HB := n0_; have BK102 := n1_; have GW102 := n2_; have GE102 := n3_; clear n0_ n1_ n2_ n3_; clear hb hbox hg; have hcz7_0 : w6.cell? ⟨gb102, 0, none⟩ = some (.int .i64 0) := (blk_cell BK102.out 0).trans rfl; have hcz7_1 : w6.cell? ⟨gb102, 1, none⟩ = some (.int .i64 0) := (blk_cell BK102.out 1).trans rfl; have hfz7_0 := blk_frozen BK102.out 0; have hfz7_1 := blk_frozen BK102.out 1)); go_upto_block 2 with (first | ((with_reducible refine gate_dst (N := 6) rfl ?_); refine box_event ?hg (N := 6) ?hd (cs := #[.int .i64 0, .int .i64 0]) (t := 127) ?hr ?_; (case hd => rfl); (case hg => rfl); (case hr => first | (go_simp; done) | (go_simp; rfl)); intro gb102 hg w6 hbox hb; have n0_ := Aside0.mk (below_step (bl HB.out) hb); have n1_ := Aside0.mk (hbox); have n2_ := Aside0.mk (szg hg (bl HB.out)); have n3_ := Aside0.mk (szg hg (bl HB.out)); clear HB; have HB := n0_; have BK102 := n1_; have GW102 := n2_; have GE102 := n3_; clear n0_ n1_ n2_ n3_; clear hb hbox hg; have hcz7_0 : w6.cell? ⟨gb102, 0, none⟩ = some (.int .i64 0) := (blk_cell BK102.out 0).trans rfl; have hcz7_1 : w6.cell? ⟨gb102, 1, none⟩ = some (.int .i64 0) := (blk_cell BK102.out 1).trans rfl; have hfz7_0 := blk_frozen BK102.out 0; have hfz7_1 := blk_frozen BK102.out 1)))
      (try simp only [Act.put, List.setIfInBounds_toArray, List.set_cons_zero, List.set_cons_succ])
      go_cut [] (fun wc => ∃ (kq : Nat), Aside0 (axis_Check.j3 kq l0 x3_1 x4_1 l0 (l0.length : Int) x9_1 ((rd_T127 l0 x9_1).f0) ((rd_T127 l0 x9_1).f1) = some r) ∧ Aside0 (kq ≤ k1) ∧ Aside0 (wc.heap[gb102]? = some (.cells #[.int .i64 ((rd_T127 l0 x9_1).f0), .int .i64 ((rd_T127 l0 x9_1).f1)] 127 (0, 0))) ∧ Aside0 (Below w.heap.size w wc))
      case first =>
       have H := HC5.out
       clear HC5
       have HC8 := Aside0.mk H
       clear H
       go_upto_region 5 with (fail)
       repeat (go_quiet (fail); go_upto_region 5 with (fail))
       go_cut [14] (fun v14 wc => ∃ (kq : Nat) (x14_7 : Bool), v14 = .bool x14_7 ∧ Aside0 (axis_Check.j1 kq l0 x3_1 x4_1 x9_1 l0 (l0.length : Int) x9_1 x14_7 ((rd_T127 l0 x9_1).f0) ((rd_T127 l0 x9_1).f1) = some r) ∧ Aside0 (kq ≤ k1) ∧ Aside0 (wc.heap[gb102]? = some (.cells #[.int .i64 ((rd_T127 l0 x9_1).f0), .int .i64 ((rd_T127 l0 x9_1).f1)] 127 (0, 0))) ∧ Aside0 (Below w.heap.size w wc))
       case first =>
        have H := HC8.out
        clear HC8
        by_cases c9 : ((rd_T127 l0 x9_1).f0) < 0
        ·rw [if_pos c9] at H
         have c9b0 : decide (((rd_T127 l0 x9_1).f0) < 0) = true := decide_eq_true c9
         clear c9
         (first | rw [c9b0] | (simp only [i64_w, i32_w]; rw [c9b0]) | rw [c9b2] | skip)
         have H' := Aside0.mk H
         clear H
         have hcz10_0 : w6.cell? ⟨gb102, 0, none⟩ = some (.int .i64 0) := (blk_cell BK102.out 0).trans rfl
         have hcz10_1 : w6.cell? ⟨gb102, 1, none⟩ = some (.int .i64 0) := (blk_cell BK102.out 1).trans rfl
         have hfz10_0 := blk_frozen BK102.out 0
         have hfz10_1 := blk_frozen BK102.out 1
         go_wp2
         repeat (go_quiet (fail); try go_wp2)
         go_meet
         case rel => exact ⟨_, (true), (by first | rfl | (simp; done) | (simp [*]; done)), H', ⟨by have := HK1.out; first | omega | exact Nat.le_refl _⟩, ⟨by (with_reducible repeat (first | refine blk_drewN ?_ _ | refine blk_drew ?_ | refine blk_alloc ?_ _)); refine blk_put (cs := #[.int .i64 ((rd_T127 l0 x9_1).f0), .int .i64 0]) ?_ 1 _ rfl; (with_reducible repeat (first | refine blk_drewN ?_ _ | refine blk_drew ?_ | refine blk_alloc ?_ _)); refine blk_put (cs := #[.int .i64 0, .int .i64 0]) ?_ 0 _ rfl; (with_reducible repeat (first | refine blk_drewN ?_ _ | refine blk_drew ?_ | refine blk_alloc ?_ _)); exact BK102.out⟩, ⟨bl HB.out⟩⟩
        ·rw [if_neg c9] at H
         have c9b0 : decide (((rd_T127 l0 x9_1).f0) < 0) = false := decide_eq_false c9
         clear c9
         (first | rw [c9b0] | (simp only [i64_w, i32_w]; rw [c9b0]) | rw [c9b2] | skip)
         have H' := Aside0.mk H
         clear H
         have hcz11_0 : w6.cell? ⟨gb102, 0, none⟩ = some (.int .i64 0) := (blk_cell BK102.out 0).trans rfl
         have hcz11_1 : w6.cell? ⟨gb102, 1, none⟩ = some (.int .i64 0) := (blk_cell BK102.out 1).trans rfl
         have hfz11_0 := blk_frozen BK102.out 0
         have hfz11_1 := blk_frozen BK102.out 1
         go_wp2
         repeat (go_quiet (fail); try go_wp2)
         go_meet
         case rel => exact ⟨_, (decide (((rd_T127 l0 x9_1).f0) > 2)), (by first | rfl | (simp; done) | (simp [*]; done)), H', ⟨by have := HK1.out; first | omega | exact Nat.le_refl _⟩, ⟨by (with_reducible repeat (first | refine blk_drewN ?_ _ | refine blk_drew ?_ | refine blk_alloc ?_ _)); refine blk_put (cs := #[.int .i64 ((rd_T127 l0 x9_1).f0), .int .i64 0]) ?_ 1 _ rfl; (with_reducible repeat (first | refine blk_drewN ?_ _ | refine blk_drew ?_ | refine blk_alloc ?_ _)); refine blk_put (cs := #[.int .i64 0, .int .i64 0]) ?_ 0 _ rfl; (with_reducible repeat (first | refine blk_drewN ?_ _ | refine blk_drew ?_ | refine blk_alloc ?_ _)); exact BK102.out⟩, ⟨bl HB.out⟩⟩
       case rest =>
        clear HC8
        try clear p1
        try clear q1
        try clear hx1
        try clear c2
        try clear c2b0
        try clear p2
        try clear c3
        try clear c3b0
        try clear c4
        try clear c4b0
        try clear c6
        try clear c9
        try clear c9b0
        try clear c9b2
        try clear p10
        try clear q10
        try clear hx10
        try clear hcz10_0
        try clear hcz10_1
        try clear hcz11_0
        try clear hcz11_1
        try clear hcz7_0
        try clear hcz7_1
        try clear hfz10_0
        try clear hfz10_1
        try clear hfz11_0
        try clear hfz11_1
        try clear hfz7_0
        try clear hfz7_1
        try clear hx101_0
        try clear hx101_1
        try clear p101
        try clear q101
        obtain ⟨kq, x14_7, rfl, HA, HJ7, BK102, HB⟩ := hcut
        cases kq with
        | zero => exact absurd HA.out (by simp [axis_Check.j1])
        | succ kj7 =>
         have H := HA.out
         clear HA
         simp only [axis_Check.j1] at H
         by_cases c12 : x14_7 = true
         ·subst c12
          have H1 : (some 8) = some r := by rw [if_pos rfl] at H; exact H
          clear H
          have H := H1
          clear H1
          obtain rfl := Option.some.inj H
          go_wp2
          repeat (go_quiet (fail); try go_wp2)
          go_ret
          exact ⟨by first | rfl | (simp [errW_none, errW_some] <;> rfl) | (simp [*, errW_none, errW_some] <;> rfl), bl HB.out⟩
         ·replace c12 := Bool.eq_false_iff.mpr c12
          subst c12
          have H1 : (if ((rd_T127 l0 x9_1).f1) < 1 then (axis_Check.j2 kj7 l0 x3_1 x4_1 x9_1 l0 (l0.length : Int) x9_1 true ((rd_T127 l0 x9_1).f0) ((rd_T127 l0 x9_1).f1)) else (axis_Check.j2 kj7 l0 x3_1 x4_1 x9_1 l0 (l0.length : Int) x9_1 (decide (((rd_T127 l0 x9_1).f1) > 2147483647)) ((rd_T127 l0 x9_1).f0) ((rd_T127 l0 x9_1).f1))) = some r := by rw [if_neg (show ¬ (false = true) by decide)] at H; exact H
          clear H
          have H := H1
          clear H1
          have HC13 := Aside0.mk H
          clear H
          go_upto_region 7 with (fail)
          repeat (go_quiet (fail); go_upto_region 7 with (fail))
          go_cut [23] (fun v23 wc => ∃ (kq : Nat) (x23_12 : Bool), v23 = .bool x23_12 ∧ Aside0 (axis_Check.j2 kq l0 x3_1 x4_1 x9_1 l0 (l0.length : Int) x9_1 x23_12 ((rd_T127 l0 x9_1).f0) ((rd_T127 l0 x9_1).f1) = some r) ∧ Aside0 (kq ≤ kj7) ∧ Aside0 (wc.heap[gb102]? = some (.cells #[.int .i64 ((rd_T127 l0 x9_1).f0), .int .i64 ((rd_T127 l0 x9_1).f1)] 127 (0, 0))) ∧ Aside0 (Below w.heap.size w wc))
          case first =>
           have H := HC13.out
           clear HC13
           by_cases c14 : ((rd_T127 l0 x9_1).f1) < 1
           ·rw [if_pos c14] at H
            have c14b0 : decide (((rd_T127 l0 x9_1).f1) < 1) = true := decide_eq_true c14
            clear c14
            (first | rw [c14b0] | (simp only [i64_w, i32_w]; rw [c14b0]) | rw [c14b2] | skip)
            have H' := Aside0.mk H
            clear H
            have hcz15_0 : wc.cell? ⟨gb102, 0, none⟩ = some (.int .i64 ((rd_T127 l0 x9_1).f0)) := (blk_cell BK102.out 0).trans rfl
            have hcz15_1 : wc.cell? ⟨gb102, 1, none⟩ = some (.int .i64 ((rd_T127 l0 x9_1).f1)) := (blk_cell BK102.out 1).trans rfl
            have hfz15_0 := blk_frozen BK102.out 0
            have hfz15_1 := blk_frozen BK102.out 1
            go_wp2
            repeat (go_quiet (fail); try go_wp2)
            go_meet
            case rel => exact ⟨_, (true), (by first | rfl | (simp; done) | (simp [*]; done)), H', ⟨by have := HK1.out; have := HJ7.out; first | omega | exact Nat.le_refl _⟩, ⟨bk BK102.out⟩, ⟨bl HB.out⟩⟩
           ·rw [if_neg c14] at H
            have c14b0 : decide (((rd_T127 l0 x9_1).f1) < 1) = false := decide_eq_false c14
            clear c14
            (first | rw [c14b0] | (simp only [i64_w, i32_w]; rw [c14b0]) | rw [c14b2] | skip)
            have H' := Aside0.mk H
            clear H
            have hcz16_0 : wc.cell? ⟨gb102, 0, none⟩ = some (.int .i64 ((rd_T127 l0 x9_1).f0)) := (blk_cell BK102.out 0).trans rfl
            have hcz16_1 : wc.cell? ⟨gb102, 1, none⟩ = some (.int .i64 ((rd_T127 l0 x9_1).f1)) := (blk_cell BK102.out 1).trans rfl
            have hfz16_0 := blk_frozen BK102.out 0
            have hfz16_1 := blk_frozen BK102.out 1
            go_wp2
            repeat (go_quiet (fail); try go_wp2)
            go_meet
            case rel => exact ⟨_, (decide (((rd_T127 l0 x9_1).f1) > 2147483647)), (by first | rfl | (simp; done) | (simp [*]; done)), H', ⟨by have := HK1.out; have := HJ7.out; first | omega | exact Nat.le_refl _⟩, ⟨bk BK102.out⟩, ⟨bl HB.out⟩⟩
          case rest =>
           clear HC13
           try clear c1
           try clear p1
           try clear q1
           try clear hx1
           try clear c2
           try clear c2b0
           try clear p2
           try clear c3
           try clear c3b0
           try clear c4
           try clear c4b0
           try clear c6
           try clear c9
           try clear c9b0
           try clear c9b2
           try clear p10
           try clear q10
           try clear hx10
           try clear c12
           try clear c14
           try clear c14b0
           try clear c14b2
           try clear hcz10_0
           try clear hcz10_1
           try clear hcz11_0
           try clear hcz11_1
           try clear hcz15_0
           try clear hcz15_1
           try clear hcz16_0
           try clear hcz16_1
           try clear hcz7_0
           try clear hcz7_1
           try clear hfz10_0
           try clear hfz10_1
           try clear hfz11_0
           try clear hfz11_1
           try clear hfz15_0
           try clear hfz15_1
           try clear hfz16_0
           try clear hfz16_1
           try clear hfz7_0
           try clear hfz7_1
           try clear hx101_0
           try clear hx101_1
           try clear p1
           try clear p10
           try clear p101
           try clear p2
           try clear q1
           try clear q10
           try clear q101
           obtain ⟨kq, x23_12, rfl, HA, HJ12, BK102, HB⟩ := hcut
           cases kq with
           | zero => exact absurd HA.out (by simp [axis_Check.j2])
           | succ kj12 =>
            have H := HA.out
            clear HA
            simp only [axis_Check.j2] at H
            by_cases c17 : x23_12 = true
            ·subst c17
             have H1 : (some 2) = some r := by rw [if_pos rfl] at H; exact H
             clear H
             have H := H1
             clear H1
             obtain rfl := Option.some.inj H
             go_wp2
             repeat (go_quiet (fail); try go_wp2)
             go_ret
             exact ⟨by first | rfl | (simp [errW_none, errW_some] <;> rfl) | (simp [*, errW_none, errW_some] <;> rfl), bl HB.out⟩
            ·replace c17 := Bool.eq_false_iff.mpr c17
             subst c17
             have H1 : (if x9_1 > 0 then (if 0 ≤ (wrap64 (x9_1 - 1)) then (if (wrap64 (x9_1 - 1)) < (l0.length : Int) then (if ((rd_T127 l0 (wrap64 (x9_1 - 1))).f0) = ((rd_T127 l0 x9_1).f0) then (some 5) else (if ((rd_T127 l0 (wrap64 (x9_1 - 1))).f0) = 2 then (if ((rd_T127 l0 x9_1).f0) = 1 then (some 5) else (axis_Check.j3 kj12 l0 x3_1 x4_1 l0 (l0.length : Int) x9_1 ((rd_T127 l0 x9_1).f0) ((rd_T127 l0 x9_1).f1))) else (axis_Check.j3 kj12 l0 x3_1 x4_1 l0 (l0.length : Int) x9_1 ((rd_T127 l0 x9_1).f0) ((rd_T127 l0 x9_1).f1)))) else (none)) else (none)) else (axis_Check.j3 kj12 l0 x3_1 x4_1 l0 (l0.length : Int) x9_1 ((rd_T127 l0 x9_1).f0) ((rd_T127 l0 x9_1).f1))) = some r := by rw [if_neg (show ¬ (false = true) by decide)] at H; exact H
             clear H
             have H := H1
             clear H1
             by_cases c18 : x9_1 > 0
             ·rw [if_pos c18] at H
              have c18b0 : decide (0 < x9_1) = true := decide_eq_true c18
              clear c18
              obtain ⟨ji19, hji19⟩ : ∃ j_ : Int, (wrap64 (x9_1 - 1)) = j_ := ⟨_, rfl⟩
              replace H : (if 0 ≤ (ji19) then (if (ji19) < (l0.length : Int) then (if ((rd_T127 l0 (ji19)).f0) = ((rd_T127 l0 x9_1).f0) then (some 5) else (if ((rd_T127 l0 (ji19)).f0) = 2 then (if ((rd_T127 l0 x9_1).f0) = 1 then (some 5) else (axis_Check.j3 kj12 l0 x3_1 x4_1 l0 (l0.length : Int) x9_1 ((rd_T127 l0 x9_1).f0) ((rd_T127 l0 x9_1).f1))) else (axis_Check.j3 kj12 l0 x3_1 x4_1 l0 (l0.length : Int) x9_1 ((rd_T127 l0 x9_1).f0) ((rd_T127 l0 x9_1).f1)))) else (none)) else (none)) = some r := by first | (rw [hji19] at H; exact H) | (simp only [hji19] at H ⊢; exact H)
              have hji19w : (IntKind.i64.wrap (x9_1 - 1)) = ji19 := (i64_w _).trans hji19
              by_cases c20 : 0 ≤ (ji19)
              ·rw [if_pos c20] at H
               have c20b0 : decide (0 ≤ (ji19)) = true := decide_eq_true c20
               clear c20
               by_cases c21 : (ji19) < (l0.length : Int)
               ·rw [if_pos c21] at H
                have c21b0 : decide ((ji19) < (l0.length : Int)) = true := decide_eq_true c21
                clear c21
                by_cases c22 : ((rd_T127 l0 (ji19)).f0) = ((rd_T127 l0 x9_1).f0)
                ·rw [if_pos c22] at H
                 have c22b0 : (((rd_T127 l0 (ji19)).f0) == ((rd_T127 l0 x9_1).f0)) = true := beq_iff_eq.mpr c22
                 have c22b1 : (((rd_T127 l0 (ji19)).f0) != ((rd_T127 l0 x9_1).f0)) = false := bne_eq_false_iff_eq.mpr c22
                 clear c22
                 obtain rfl := Option.some.inj H
                 have p103 : 0 ≤ ((ji19) : Int) := of_decide_eq_true (by first | (with_reducible assumption) | assumption)
                 have q103 : (ji19) < (l0.length : Int) := of_decide_eq_true (by first | (with_reducible assumption) | assumption)
                 obtain ⟨ad103, e103, hx103_0, hx103_1⟩ := at_T127 HR0.out (ji19) p103 q103
                 obtain rfl : ad101 = ad103 := (by injection e103)
                 replace hx103_0 := (HB.out.cell (World.block_lt_of_cell? w _ hx103_0)).trans hx103_0
                 replace hx103_1 := (HB.out.cell (World.block_lt_of_cell? w _ hx103_1)).trans hx103_1
                 replace p103 := eq_true p103
                 replace q103 := eq_true q103
                 have hcz23_0 : wc.cell? ⟨gb102, 0, none⟩ = some (.int .i64 ((rd_T127 l0 x9_1).f0)) := (blk_cell BK102.out 0).trans rfl
                 have hcz23_1 : wc.cell? ⟨gb102, 1, none⟩ = some (.int .i64 ((rd_T127 l0 x9_1).f1)) := (blk_cell BK102.out 1).trans rfl
                 have hfz23_0 := blk_frozen BK102.out 0
                 have hfz23_1 := blk_frozen BK102.out 1
                 go_wp2
                 repeat (go_quiet (fail); try go_wp2)
                 go_ret
                 exact ⟨by first | rfl | (simp [errW_none, errW_some] <;> rfl) | (simp only [← hji19]; first | rfl | (simp [errW_none, errW_some] <;> rfl)) | (simp [*, errW_none, errW_some] <;> rfl), bl HB.out⟩
                ·rw [if_neg c22] at H
                 have c22b0 : (((rd_T127 l0 (ji19)).f0) == ((rd_T127 l0 x9_1).f0)) = false := beq_eq_false_iff_ne.mpr c22
                 have c22b1 : (((rd_T127 l0 (ji19)).f0) != ((rd_T127 l0 x9_1).f0)) = true := bne_iff_ne.mpr c22
                 by_cases c24 : ((rd_T127 l0 (ji19)).f0) = 2
                 ·rw [if_pos c24] at H
                  have c24b0 : (((rd_T127 l0 (ji19)).f0) == 2) = true := beq_iff_eq.mpr c24
                  have c24b1 : (((rd_T127 l0 (ji19)).f0) != 2) = false := bne_eq_false_iff_eq.mpr c24
                  clear c24
                  by_cases c25 : ((rd_T127 l0 x9_1).f0) = 1
                  ·rw [if_pos c25] at H
                   have c25b0 : (((rd_T127 l0 x9_1).f0) == 1) = true := beq_iff_eq.mpr c25
                   have c25b1 : (((rd_T127 l0 x9_1).f0) != 1) = false := bne_eq_false_iff_eq.mpr c25
                   clear c25
                   obtain rfl := Option.some.inj H
                   have p103 : 0 ≤ ((ji19) : Int) := of_decide_eq_true (by first | (with_reducible assumption) | assumption)
                   have q103 : (ji19) < (l0.length : Int) := of_decide_eq_true (by first | (with_reducible assumption) | assumption)
                   obtain ⟨ad103, e103, hx103_0, hx103_1⟩ := at_T127 HR0.out (ji19) p103 q103
                   obtain rfl : ad101 = ad103 := (by injection e103)
                   replace hx103_0 := (HB.out.cell (World.block_lt_of_cell? w _ hx103_0)).trans hx103_0
                   replace hx103_1 := (HB.out.cell (World.block_lt_of_cell? w _ hx103_1)).trans hx103_1
                   replace p103 := eq_true p103
                   replace q103 := eq_true q103
                   have hcz26_0 : wc.cell? ⟨gb102, 0, none⟩ = some (.int .i64 ((rd_T127 l0 x9_1).f0)) := (blk_cell BK102.out 0).trans rfl
                   have hcz26_1 : wc.cell? ⟨gb102, 1, none⟩ = some (.int .i64 ((rd_T127 l0 x9_1).f1)) := (blk_cell BK102.out 1).trans rfl
                   have hfz26_0 := blk_frozen BK102.out 0
                   have hfz26_1 := blk_frozen BK102.out 1
                   have p104 : 0 ≤ ((ji19) : Int) := of_decide_eq_true (by first | (with_reducible assumption) | assumption)
                   have q104 : (ji19) < (l0.length : Int) := of_decide_eq_true (by first | (with_reducible assumption) | assumption)
                   obtain ⟨ad104, e104, hx104_0, hx104_1⟩ := at_T127 HR0.out (ji19) p104 q104
                   obtain rfl : ad101 = ad104 := (by injection e104)
                   replace hx104_0 := (HB.out.cell (World.block_lt_of_cell? w _ hx104_0)).trans hx104_0
                   replace hx104_1 := (HB.out.cell (World.block_lt_of_cell? w _ hx104_1)).trans hx104_1
                   replace p104 := eq_true p104
                   replace q104 := eq_true q104
                   go_wp2
                   repeat (go_quiet (fail); try go_wp2)
                   go_ret
                   exact ⟨by first | rfl | (simp [errW_none, errW_some] <;> rfl) | (simp only [← hji19]; first | rfl | (simp [errW_none, errW_some] <;> rfl)) | (simp [*, errW_none, errW_some] <;> rfl), bl HB.out⟩
                  ·rw [if_neg c25] at H
                   have c25b0 : (((rd_T127 l0 x9_1).f0) == 1) = false := beq_eq_false_iff_ne.mpr c25
                   have c25b1 : (((rd_T127 l0 x9_1).f0) != 1) = true := bne_iff_ne.mpr c25
                   have H' := Aside0.mk H
                   clear H
                   have p103 : 0 ≤ ((ji19) : Int) := of_decide_eq_true (by first | (with_reducible assumption) | assumption)
                   have q103 : (ji19) < (l0.length : Int) := of_decide_eq_true (by first | (with_reducible assumption) | assumption)
                   obtain ⟨ad103, e103, hx103_0, hx103_1⟩ := at_T127 HR0.out (ji19) p103 q103
                   obtain rfl : ad101 = ad103 := (by injection e103)
                   replace hx103_0 := (HB.out.cell (World.block_lt_of_cell? w _ hx103_0)).trans hx103_0
                   replace hx103_1 := (HB.out.cell (World.block_lt_of_cell? w _ hx103_1)).trans hx103_1
                   replace p103 := eq_true p103
                   replace q103 := eq_true q103
                   have hcz27_0 : wc.cell? ⟨gb102, 0, none⟩ = some (.int .i64 ((rd_T127 l0 x9_1).f0)) := (blk_cell BK102.out 0).trans rfl
                   have hcz27_1 : wc.cell? ⟨gb102, 1, none⟩ = some (.int .i64 ((rd_T127 l0 x9_1).f1)) := (blk_cell BK102.out 1).trans rfl
                   have hfz27_0 := blk_frozen BK102.out 0
                   have hfz27_1 := blk_frozen BK102.out 1
                   have p104 : 0 ≤ ((ji19) : Int) := of_decide_eq_true (by first | (with_reducible assumption) | assumption)
                   have q104 : (ji19) < (l0.length : Int) := of_decide_eq_true (by first | (with_reducible assumption) | assumption)
                   obtain ⟨ad104, e104, hx104_0, hx104_1⟩ := at_T127 HR0.out (ji19) p104 q104
                   obtain rfl : ad101 = ad104 := (by injection e104)
                   replace hx104_0 := (HB.out.cell (World.block_lt_of_cell? w _ hx104_0)).trans hx104_0
                   replace hx104_1 := (HB.out.cell (World.block_lt_of_cell? w _ hx104_1)).trans hx104_1
                   replace p104 := eq_true p104
                   replace q104 := eq_true q104
                   go_wp2
                   repeat (go_quiet (fail); try go_wp2)
                   go_meet
                   case rel => exact ⟨_, H', ⟨by have := HK1.out; have := HJ7.out; have := HJ12.out; first | omega | exact Nat.le_refl _⟩, ⟨bk BK102.out⟩, ⟨bl HB.out⟩⟩
                 ·rw [if_neg c24] at H
                  have c24b0 : (((rd_T127 l0 (ji19)).f0) == 2) = false := beq_eq_false_iff_ne.mpr c24
                  have c24b1 : (((rd_T127 l0 (ji19)).f0) != 2) = true := bne_iff_ne.mpr c24
                  have H' := Aside0.mk H
                  clear H
                  have p103 : 0 ≤ ((ji19) : Int) := of_decide_eq_true (by first | (with_reducible assumption) | assumption)
                  have q103 : (ji19) < (l0.length : Int) := of_decide_eq_true (by first | (with_reducible assumption) | assumption)
                  obtain ⟨ad103, e103, hx103_0, hx103_1⟩ := at_T127 HR0.out (ji19) p103 q103
                  obtain rfl : ad101 = ad103 := (by injection e103)
                  replace hx103_0 := (HB.out.cell (World.block_lt_of_cell? w _ hx103_0)).trans hx103_0
                  replace hx103_1 := (HB.out.cell (World.block_lt_of_cell? w _ hx103_1)).trans hx103_1
                  replace p103 := eq_true p103
                  replace q103 := eq_true q103
                  have hcz28_0 : wc.cell? ⟨gb102, 0, none⟩ = some (.int .i64 ((rd_T127 l0 x9_1).f0)) := (blk_cell BK102.out 0).trans rfl
                  have hcz28_1 : wc.cell? ⟨gb102, 1, none⟩ = some (.int .i64 ((rd_T127 l0 x9_1).f1)) := (blk_cell BK102.out 1).trans rfl
                  have hfz28_0 := blk_frozen BK102.out 0
                  have hfz28_1 := blk_frozen BK102.out 1
                  have p104 : 0 ≤ ((ji19) : Int) := of_decide_eq_true (by first | (with_reducible assumption) | assumption)
                  have q104 : (ji19) < (l0.length : Int) := of_decide_eq_true (by first | (with_reducible assumption) | assumption)
                  obtain ⟨ad104, e104, hx104_0, hx104_1⟩ := at_T127 HR0.out (ji19) p104 q104
                  obtain rfl : ad101 = ad104 := (by injection e104)
                  replace hx104_0 := (HB.out.cell (World.block_lt_of_cell? w _ hx104_0)).trans hx104_0
                  replace hx104_1 := (HB.out.cell (World.block_lt_of_cell? w _ hx104_1)).trans hx104_1
                  replace p104 := eq_true p104
                  replace q104 := eq_true q104
                  go_wp2
                  repeat (go_quiet (fail); try go_wp2)
                  go_meet
                  case rel => exact ⟨_, H', ⟨by have := HK1.out; have := HJ7.out; have := HJ12.out; first | omega | exact Nat.le_refl _⟩, ⟨bk BK102.out⟩, ⟨bl HB.out⟩⟩
               ·rw [if_neg c21] at H
                exact absurd H (by simp)
              ·rw [if_neg c20] at H
               exact absurd H (by simp)
             ·rw [if_neg c18] at H
              have c18b0 : decide (0 < x9_1) = false := decide_eq_false c18
              clear c18
              have H' := Aside0.mk H
              clear H
              go_wp2
              repeat (go_quiet (fail); try go_wp2)
              go_meet
              case rel => exact ⟨_, H', ⟨by have := HK1.out; have := HJ7.out; have := HJ12.out; first | omega | exact Nat.le_refl _⟩, ⟨bk BK102.out⟩, ⟨bl HB.out⟩⟩
      case rest =>
       clear HC5
       try clear c1
       try clear p1
       try clear q1
       try clear hx1
       try clear c2
       try clear c2b0
       try clear p2
       try clear c3
       try clear c3b0
       try clear c4
       try clear c4b0
       try clear c6
       try clear p6
       try clear c9
       try clear c9b0
       try clear c9b2
       try clear p10
       try clear q10
       try clear hx10
       try clear c12
       try clear c14
       try clear c14b0
       try clear c14b2
       try clear c17
       try clear c18
       try clear c18b0
       try clear c20
       try clear c20b0
       try clear c21
       try clear c21b0
       try clear c22
       try clear c22b0
       try clear c22b1
       try clear c24
       try clear c24b0
       try clear c24b1
       try clear c25
       try clear c25b0
       try clear c25b1
       try clear hcz10_0
       try clear hcz10_1
       try clear hcz11_0
       try clear hcz11_1
       try clear hcz15_0
       try clear hcz15_1
       try clear hcz16_0
       try clear hcz16_1
       try clear hcz23_0
       try clear hcz23_1
       try clear hcz26_0
       try clear hcz26_1
       try clear hcz27_0
       try clear hcz27_1
       try clear hcz28_0
       try clear hcz28_1
       try clear hcz7_0
       try clear hcz7_1
       try clear hfz10_0
       try clear hfz10_1
       try clear hfz11_0
       try clear hfz11_1
       try clear hfz15_0
       try clear hfz15_1
       try clear hfz16_0
       try clear hfz16_1
       try clear hfz23_0
       try clear hfz23_1
       try clear hfz26_0
       try clear hfz26_1
       try clear hfz27_0
       try clear hfz27_1
       try clear hfz28_0
       try clear hfz28_1
       try clear hfz7_0
       try clear hfz7_1
       try clear hx101_0
       try clear hx101_1
       try clear hx103_0
       try clear hx103_1
       try clear hx104_0
       try clear hx104_1
       try clear p1
       try clear p10
       try clear p101
       try clear p103
       try clear p104
       try clear p2
       try clear q1
       try clear q10
       try clear q101
       try clear q103
       try clear q104
       obtain ⟨kq, HA, HJ4, BK102, HB⟩ := hcut
       cases kq with
       | zero => exact absurd HA.out (by simp [axis_Check.j3])
       | succ kj4 =>
        have H := HA.out
        clear HA
        simp only [axis_Check.j3] at H
        by_cases c29 : ((rd_T127 l0 x9_1).f0) = 1
        ·rw [if_pos c29] at H
         have c29b0 : (((rd_T127 l0 x9_1).f0) == 1) = true := beq_iff_eq.mpr c29
         have c29b1 : (((rd_T127 l0 x9_1).f0) != 1) = false := bne_eq_false_iff_eq.mpr c29
         clear c29
         by_cases c30 : ((rd_T127 l0 x9_1).f0) = 2
         ·rw [if_pos c30] at H
          have c30b0 : (((rd_T127 l0 x9_1).f0) == 2) = true := beq_iff_eq.mpr c30
          have c30b1 : (((rd_T127 l0 x9_1).f0) != 2) = false := bne_eq_false_iff_eq.mpr c30
          clear c30
          have H' := Aside0.mk H
          clear H
          have hcz31_0 : wc.cell? ⟨gb102, 0, none⟩ = some (.int .i64 ((rd_T127 l0 x9_1).f0)) := (blk_cell BK102.out 0).trans rfl
          have hcz31_1 : wc.cell? ⟨gb102, 1, none⟩ = some (.int .i64 ((rd_T127 l0 x9_1).f1)) := (blk_cell BK102.out 1).trans rfl
          have hfz31_0 := blk_frozen BK102.out 0
          have hfz31_1 := blk_frozen BK102.out 1
          go_wp2
          repeat (go_quiet (fail); try go_wp2)
          go_roundg kj4
          case measure => have := HK1.out; have := HJ4.out; omega
          case rel => exact ⟨(x3_1), (x4_1), (wrap64 (x9_1 + 1)), (by first | rfl | (simp; done) | (simp [*]; done)), (by first | rfl | (simp; done) | (simp [*]; done)), (by first | rfl | (simp; done) | (simp [*]; done)), H', ⟨by have := HK1.out; have := HJ4.out; omega⟩, ⟨bl HB.out⟩⟩
         ·rw [if_neg c30] at H
          have c30b0 : (((rd_T127 l0 x9_1).f0) == 2) = false := beq_eq_false_iff_ne.mpr c30
          have c30b1 : (((rd_T127 l0 x9_1).f0) != 2) = true := bne_iff_ne.mpr c30
          obtain ⟨ji32, hji32⟩ : ∃ j_ : Int, (mn (wrap64 (x4_1 + ((rd_T127 l0 x9_1).f1))) 2147483648) = j_ := ⟨_, rfl⟩
          replace H : (axis_Check.l0 kj4 l0 x3_1 ji32 l0 (l0.length : Int) (wrap64 (x9_1 + 1))) = some r := by first | (rw [hji32] at H; exact H) | (simp only [hji32] at H ⊢; exact H)
          have hji32_ : (if 2147483648 < (wrap64 (x4_1 + ((rd_T127 l0 x9_1).f1))) then 2147483648 else (wrap64 (x4_1 + ((rd_T127 l0 x9_1).f1)))) = ji32 := hji32
          have H' := Aside0.mk H
          clear H
          have hcz33_0 : wc.cell? ⟨gb102, 0, none⟩ = some (.int .i64 ((rd_T127 l0 x9_1).f0)) := (blk_cell BK102.out 0).trans rfl
          have hcz33_1 : wc.cell? ⟨gb102, 1, none⟩ = some (.int .i64 ((rd_T127 l0 x9_1).f1)) := (blk_cell BK102.out 1).trans rfl
          have hfz33_0 := blk_frozen BK102.out 0
          have hfz33_1 := blk_frozen BK102.out 1
          go_wp2
          repeat (go_quiet (fail); try go_wp2)
          go_roundg kj4
          case measure => have := HK1.out; have := HJ4.out; omega
          case rel => exact ⟨(x3_1), (ji32), (wrap64 (x9_1 + 1)), (by first | rfl | (simp; done) | (simp [*]; done)), (by first | rfl | (simp; done) | (simp only [← hji32] <;> (first | rfl | simp)) | (simp [*]; done)), (by first | rfl | (simp; done) | (simp [*]; done)), H', ⟨by have := HK1.out; have := HJ4.out; omega⟩, ⟨bl HB.out⟩⟩
        ·rw [if_neg c29] at H
         have c29b0 : (((rd_T127 l0 x9_1).f0) == 1) = false := beq_eq_false_iff_ne.mpr c29
         have c29b1 : (((rd_T127 l0 x9_1).f0) != 1) = true := bne_iff_ne.mpr c29
         obtain ⟨ji34, hji34⟩ : ∃ j_ : Int, (mn (wrap64 (x3_1 + ((rd_T127 l0 x9_1).f1))) 2147483648) = j_ := ⟨_, rfl⟩
         replace H : (if ((rd_T127 l0 x9_1).f0) = 2 then (axis_Check.l0 kj4 l0 ji34 x4_1 l0 (l0.length : Int) (wrap64 (x9_1 + 1))) else (axis_Check.l0 kj4 l0 ji34 (mn (wrap64 (x4_1 + ((rd_T127 l0 x9_1).f1))) 2147483648) l0 (l0.length : Int) (wrap64 (x9_1 + 1)))) = some r := by first | (rw [hji34] at H; exact H) | (simp only [hji34] at H ⊢; exact H)
         have hji34_ : (if 2147483648 < (wrap64 (x3_1 + ((rd_T127 l0 x9_1).f1))) then 2147483648 else (wrap64 (x3_1 + ((rd_T127 l0 x9_1).f1)))) = ji34 := hji34
         by_cases c35 : ((rd_T127 l0 x9_1).f0) = 2
         ·rw [if_pos c35] at H
          have c35b0 : (((rd_T127 l0 x9_1).f0) == 2) = true := beq_iff_eq.mpr c35
          have c35b1 : (((rd_T127 l0 x9_1).f0) != 2) = false := bne_eq_false_iff_eq.mpr c35
          clear c35
          have H' := Aside0.mk H
          clear H
          have hcz36_0 : wc.cell? ⟨gb102, 0, none⟩ = some (.int .i64 ((rd_T127 l0 x9_1).f0)) := (blk_cell BK102.out 0).trans rfl
          have hcz36_1 : wc.cell? ⟨gb102, 1, none⟩ = some (.int .i64 ((rd_T127 l0 x9_1).f1)) := (blk_cell BK102.out 1).trans rfl
          have hfz36_0 := blk_frozen BK102.out 0
          have hfz36_1 := blk_frozen BK102.out 1
          go_wp2
          repeat (go_quiet (fail); try go_wp2)
          go_roundg kj4
          case measure => have := HK1.out; have := HJ4.out; omega
          case rel => exact ⟨(ji34), (x4_1), (wrap64 (x9_1 + 1)), (by first | rfl | (simp; done) | (simp only [← hji34] <;> (first | rfl | simp)) | (simp [*]; done)), (by first | rfl | (simp; done) | (simp [*]; done)), (by first | rfl | (simp; done) | (simp [*]; done)), H', ⟨by have := HK1.out; have := HJ4.out; omega⟩, ⟨bl HB.out⟩⟩
         ·rw [if_neg c35] at H
          have c35b0 : (((rd_T127 l0 x9_1).f0) == 2) = false := beq_eq_false_iff_ne.mpr c35
          have c35b1 : (((rd_T127 l0 x9_1).f0) != 2) = true := bne_iff_ne.mpr c35
          obtain ⟨ji37, hji37⟩ : ∃ j_ : Int, (mn (wrap64 (x4_1 + ((rd_T127 l0 x9_1).f1))) 2147483648) = j_ := ⟨_, rfl⟩
          replace H : (axis_Check.l0 kj4 l0 ji34 ji37 l0 (l0.length : Int) (wrap64 (x9_1 + 1))) = some r := by first | (rw [hji37] at H; exact H) | (simp only [hji37] at H ⊢; exact H)
          have hji37_ : (if 2147483648 < (wrap64 (x4_1 + ((rd_T127 l0 x9_1).f1))) then 2147483648 else (wrap64 (x4_1 + ((rd_T127 l0 x9_1).f1)))) = ji37 := hji37
          have H' := Aside0.mk H
          clear H
          have hcz38_0 : wc.cell? ⟨gb102, 0, none⟩ = some (.int .i64 ((rd_T127 l0 x9_1).f0)) := (blk_cell BK102.out 0).trans rfl
          have hcz38_1 : wc.cell? ⟨gb102, 1, none⟩ = some (.int .i64 ((rd_T127 l0 x9_1).f1)) := (blk_cell BK102.out 1).trans rfl
          have hfz38_0 := blk_frozen BK102.out 0
          have hfz38_1 := blk_frozen BK102.out 1
          go_wp2
          repeat (go_quiet (fail); try go_wp2)
          go_roundg kj4
          case measure => have := HK1.out; have := HJ4.out; omega
          case rel => exact ⟨(ji34), (ji37), (wrap64 (x9_1 + 1)), (by first | rfl | (simp; done) | (simp only [← hji34] <;> (first | rfl | simp)) | (simp [*]; done)), (by first | rfl | (simp; done) | (simp only [← hji37] <;> (first | rfl | simp)) | (simp [*]; done)), (by first | rfl | (simp; done) | (simp [*]; done)), H', ⟨by have := HK1.out; have := HJ4.out; omega⟩, ⟨bl HB.out⟩⟩
     ·rw [if_neg c4] at H
      exact absurd H (by simp)
    ·rw [if_neg c3] at H
     exact absurd H (by simp)
   ·rw [if_neg c2] at H
    have c2b0 : decide (x9_1 < (l0.length : Int)) = false := decide_eq_false c2
    clear c2
    by_cases c39 : x3_1 > 2147483647
    ·rw [if_pos c39] at H
     have c39b0 : decide (2147483647 < x3_1) = true := decide_eq_true c39
     clear c39
     obtain rfl := Option.some.inj H
     go_wp2
     repeat (go_quiet (fail); try go_wp2)
     go_ret
     exact ⟨by first | rfl | (simp [errW_none, errW_some] <;> rfl) | (simp [*, errW_none, errW_some] <;> rfl), bl HB.out⟩
    ·rw [if_neg c39] at H
     have c39b0 : decide (2147483647 < x3_1) = false := decide_eq_false c39
     clear c39
     by_cases c40 : x4_1 > 2147483647
     ·rw [if_pos c40] at H
      have c40b0 : decide (2147483647 < x4_1) = true := decide_eq_true c40
      clear c40
      obtain rfl := Option.some.inj H
      go_wp2
      repeat (go_quiet (fail); try go_wp2)
      go_ret
      exact ⟨by first | rfl | (simp [errW_none, errW_some] <;> rfl) | (simp [*, errW_none, errW_some] <;> rfl), bl HB.out⟩
     ·rw [if_neg c40] at H
      have c40b0 : decide (2147483647 < x4_1) = false := decide_eq_false c40
      clear c40
      obtain rfl := Option.some.inj H
      go_wp2
      repeat (go_quiet (fail); try go_wp2)
      go_ret
      exact ⟨by first | rfl | (simp [errW_none, errW_some] <;> rfl) | (simp [*, errW_none, errW_some] <;> rfl), bl HB.out⟩

end Go.Proofs.YtefhcgnamfnkbaaDoor.Pr
