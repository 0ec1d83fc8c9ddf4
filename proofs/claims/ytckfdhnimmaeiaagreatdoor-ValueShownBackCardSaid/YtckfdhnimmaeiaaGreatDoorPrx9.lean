-- Written by a program of this session (wip/tools) for this claim.
import Derived.Test.YtckfdhnimmaeiaaGreatDoorPrx0
import Derived.Test.YtckfdhnimmaeiaaGreatDoorV
import Derived.Test.YtckfdhnimmaeiaaGreatDoorPrx3
import Derived.Test.YtckfdhnimmaeiaaGreatDoorPrx4
import Derived.Test.YtckfdhnimmaeiaaGreatDoorPrx8
namespace Go.Proofs.YtckfdhnimmaeiaaGreatDoor.Pr
open Go.RowKit Go.Proofs.YtckfdhnimmaeiaaGreatDoorW.PrintWords Go.Proofs.YtckfdhnimmaeiaaGreatDoorW.PrintLast Go.Proofs.YtckfdhnimmaeiaaGreatDoorW.PrintMore
attribute [local go_sem] max2_int min2_int max_two min_two max_three min_three max_four min_four   -- for this text's walks alone
set_option linter.unusedVariables false
set_option linter.unusedSimpArgs false
/-! ### exact_read: function 46 -/
mutual
def exact_read.j0 : Nat → ByteArray → Bool → Bool → ByteArray → ByteArray → Option (Bool × List Int × List Int × Int)
  | 0, _, _, _, _, _ => none
  | k + 1, x4, x5, x33, x290000, x290001 => if x33 = true then (some (false, ([] : List Int), ([] : List Int), 4)) else (if (x4.size : Int) > 300 then (exact_read.j1 k x4 x5 true x290000 x290001) else (exact_read.j1 k x4 x5 (decide ((x290001.size : Int) > 300)) x290000 x290001))
def exact_read.j1 : Nat → ByteArray → Bool → Bool → ByteArray → ByteArray → Option (Bool × List Int × List Int × Int)
  | 0, _, _, _, _, _ => none
  | k + 1, x4, x5, x43, x290000, x290001 => if x43 = true then (some (false, ([] : List Int), ([] : List Int), 3)) else ((exact_parse.f k x4).bind fun t295 => ((exact_parse.f k x290001).bind fun t298 => ((exact_common.f k t295 t298).bind fun t302 => ((exact_nat_one.f t302).bind fun t305 => (if t305 = true then (some (x5, t295, t298, 0)) else (some (false, ([] : List Int), ([] : List Int), 4)))))))
end
def exact_read.f (k : Nat) (a0_0 : ByteArray) (a0_1 : ByteArray) : Option (Bool × List Int × List Int × Int) := (strings_CutPrefix.f a0_0 (⟨#[45]⟩ : ByteArray)).bind fun bt291 => ((exact_digits.f bt291.1).bind fun t293 => (if t293 = true then ((exact_digits.f a0_1).bind fun t294 => (if t294 = true then (if a0_1.toList = ([48] : List UInt8) then (exact_read.j0 k bt291.1 bt291.2 true a0_0 a0_1) else (if bt291.1.toList = ([48] : List UInt8) then (exact_read.j0 k bt291.1 bt291.2 bt291.2 a0_0 a0_1) else (exact_read.j0 k bt291.1 bt291.2 false a0_0 a0_1))) else (exact_read.j0 k bt291.1 bt291.2 true a0_0 a0_1))) else (exact_read.j0 k bt291.1 bt291.2 true a0_0 a0_1)))
theorem exact_read.mono_l : ∀ k, (∀ y0 y1 y2 y3 y4, LeO (exact_read.j0 k y0 y1 y2 y3 y4) (exact_read.j0 (k + 1) y0 y1 y2 y3 y4)) ∧ (∀ y0 y1 y2 y3 y4, LeO (exact_read.j1 k y0 y1 y2 y3 y4) (exact_read.j1 (k + 1) y0 y1 y2 y3 y4))
  | 0 => ⟨fun _ _ _ _ _ r h => by simp [exact_read.j0] at h, fun _ _ _ _ _ r h => by simp [exact_read.j1] at h⟩
  | k + 1 => by
    obtain ⟨ih0, ih1⟩ := exact_read.mono_l k
    refine ⟨?_, ?_⟩
    · intro y0 y1 y2 y3 y4
      unfold exact_read.j0
      repeat' first
      | (with_reducible exact ih0 _ _ _ _ _)
      | (with_reducible exact ih1 _ _ _ _ _)
      | (with_reducible exact exact_common.mono _ _ _)
      | (with_reducible exact exact_parse.mono _ _)
      | (with_reducible exact LeO.refl _)
      | (with_reducible exact LeO.none _)
      | (with_reducible refine LeO.ite ?_ ?_)
      | (with_reducible refine LeO.bind ?_ (fun _ => ?_))
      | exact ih0 _ _ _ _ _
      | exact ih1 _ _ _ _ _
      | exact exact_common.mono _ _ _
      | exact exact_parse.mono _ _
      | exact LeO.none _
      | refine LeO.ite ?_ ?_
      | refine LeO.bind ?_ (fun _ => ?_)
    · intro y0 y1 y2 y3 y4
      unfold exact_read.j1
      repeat' first
      | (with_reducible exact ih0 _ _ _ _ _)
      | (with_reducible exact ih1 _ _ _ _ _)
      | (with_reducible exact exact_common.mono _ _ _)
      | (with_reducible exact exact_parse.mono _ _)
      | (with_reducible exact LeO.refl _)
      | (with_reducible exact LeO.none _)
      | (with_reducible refine LeO.ite ?_ ?_)
      | (with_reducible refine LeO.bind ?_ (fun _ => ?_))
      | exact ih0 _ _ _ _ _
      | exact ih1 _ _ _ _ _
      | exact exact_common.mono _ _ _
      | exact exact_parse.mono _ _
      | exact LeO.none _
      | refine LeO.ite ?_ ?_
      | refine LeO.bind ?_ (fun _ => ?_)
theorem exact_read.mono : ∀ a0 a1 k, LeO (exact_read.f k a0 a1) (exact_read.f (k + 1) a0 a1) := by
  intro a0 a1 k
  obtain ⟨ih0, ih1⟩ := exact_read.mono_l k
  unfold exact_read.f
  repeat' first
      | (with_reducible exact ih0 _ _ _ _ _)
      | (with_reducible exact ih1 _ _ _ _ _)
      | (with_reducible exact exact_common.mono _ _ _)
      | (with_reducible exact exact_parse.mono _ _)
      | (with_reducible exact LeO.refl _)
      | (with_reducible exact LeO.none _)
      | (with_reducible refine LeO.ite ?_ ?_)
      | (with_reducible refine LeO.bind ?_ (fun _ => ?_))
      | exact ih0 _ _ _ _ _
      | exact ih1 _ _ _ _ _
      | exact exact_common.mono _ _ _
      | exact exact_parse.mono _ _
      | exact LeO.none _
      | refine LeO.ite ?_ ?_
      | refine LeO.bind ?_ (fun _ => ?_)
def exact_read.T6 : Bool × List (List Nat × List Nat) := (true, [([], []), ([], []), ([1], [1]), ([], []), ([3], [3]), ([4, 2], [4]), ([0, 2, 5], [0, 2, 5]), ([], []), ([7, 6, 5, 0, 1, 2, 3, 4, 5, 6, 7], [6, 7])])
def exact_read.B6 : List Nat := [0, 0, 2, 0, 8, 30, 63, 0, 255]
theorem exact_read.tab6 : rtab .any (opsOf Tryz.f31 6) = exact_read.T6 := by kernel_rfl
theorem exact_read.bits6 : waitsOk exact_read.T6.2 exact_read.B6 = true := by kernel_rfl
set_option maxHeartbeats 8000000 in
set_option maxRecDepth 100000 in
theorem exact_read.calls (k : Nat) (a0_0 : ByteArray) (a0_1 : ByteArray) (r1 : Bool) (r2 : List Int) (r3 : List Int) (r4 : Int) (w : World) (hGl : Gl w) (h : exact_read.f k a0_0 a0_1 = some (r1, r2, r3, r4)) :
    Calls Tryz.prog 31 #[.agg #[.string a0_0, .string a0_1]] w fun e w' => ∃ v1_ v2_ : Value, e = .returned (.tuple #[.agg #[.bool r1, v1_, v2_], .int .i64 r4]) ∧ Kd.V (Kd.int .u32) 69 w' w.heap.size (fun k_ => (w.heap.size ≤ k_)) v1_ r2 ∧ Kd.V (Kd.int .u32) 69 w' w.heap.size (fun k_ => (w.heap.size ≤ k_)) v2_ r3 ∧ Below w.heap.size w w' := by
 have hu23 := Tryz.underlying30
 have hu80 := Tryz.underlying64
 have HB := Aside0.mk (Below.refl w.heap.size w)
 have H : ((strings_CutPrefix.f a0_0 (⟨#[45]⟩ : ByteArray)).bind fun bt291 => ((exact_digits.f bt291.1).bind fun t293 => (if t293 = true then ((exact_digits.f a0_1).bind fun t294 => (if t294 = true then (if a0_1.toList = ([48] : List UInt8) then (exact_read.j0 k bt291.1 bt291.2 true a0_0 a0_1) else (if bt291.1.toList = ([48] : List UInt8) then (exact_read.j0 k bt291.1 bt291.2 bt291.2 a0_0 a0_1) else (exact_read.j0 k bt291.1 bt291.2 false a0_0 a0_1))) else (exact_read.j0 k bt291.1 bt291.2 true a0_0 a0_1))) else (exact_read.j0 k bt291.1 bt291.2 true a0_0 a0_1)))) = some (r1, r2, r3, r4) := h
 clear h
 replace H := Option.bind_eq_some_iff.mp H
 obtain ⟨⟨t291, t292⟩, A20, H⟩ := H
 replace H : ((exact_digits.f t291).bind fun t293 => (if t293 = true then ((exact_digits.f a0_1).bind fun t294 => (if t294 = true then (if a0_1.toList = ([48] : List UInt8) then (exact_read.j0 k t291 t292 true a0_0 a0_1) else (if t291.toList = ([48] : List UInt8) then (exact_read.j0 k t291 t292 t292 a0_0 a0_1) else (exact_read.j0 k t291 t292 false a0_0 a0_1))) else (exact_read.j0 k t291 t292 true a0_0 a0_1))) else (exact_read.j0 k t291 t292 true a0_0 a0_1))) = some (r1, r2, r3, r4) := H
 have A2 := Aside0.mk A20
 clear A20
 have HC3 := Aside0.mk H
 clear H
 go_enter Tryz.func31, Tryz.ntmps31
 go_upto_region 2 with (first | ((with_reducible refine gate_dst (N := 1) rfl ?_); (try (refine gate_guard (by rfl) ?_; dsimp only)); refine box_event ?hg (N := 1) ?hd (cs := #[.string a0_0, .string a0_1]) (t := 30) ?hr ?_; (case hd => rfl); (case hg => rfl); (case hr => first | (go_simp; done) | (go_simp; rfl)); intro gb289 hg w4 hbox hb; have n0_ := Aside0.mk (below_step (bl HB.out) hb); have n1_ := Aside0.mk (hbox); have n2_ := Aside0.mk (szg hg (bl HB.out)); have n3_ := Aside0.mk (szg hg (bl HB.out)); clear HB; have HB := n0_; have BK289 := n1_; have GW289 := n2_; have GE289 := n3_; clear n0_ n1_ n2_ n3_; clear hb hbox hg) | ((with_reducible refine gate_dst (N := 2) rfl ?_); (try (refine gate_guard (by rfl) ?_; dsimp only)); refine box_event ?hg (N := 2) ?hd (cs := #[.bool false, .slice none 0 0, .slice none 0 0]) (t := 64) ?hr ?_; (case hd => rfl); (case hg => rfl); (case hr => first | (go_simp; done) | (go_simp; rfl)); intro gb290 hg w5 hbox hb; have n0_ := Aside0.mk (blk_below (bk BK289.out) hb); have n1_ := Aside0.mk (below_step (bl HB.out) hb); have n2_ := Aside0.mk (hbox); have n3_ := Aside0.mk (szg hg (bl HB.out)); have n4_ := Aside0.mk (szg hg (bl HB.out)); have n5_ := Aside0.mk (ntl hg (bk BK289.out)); have n6_ := Aside0.mk (ntg hg (bk BK289.out)); clear BK289; clear HB; have BK289 := n0_; have HB := n1_; have BK290 := n2_; have GW290 := n3_; have GE290 := n4_; have NB289_290 := n5_; have NB290_289 := n6_; clear n0_ n1_ n2_ n3_ n4_ n5_ n6_; clear hb hbox hg; have hnb6 := NB289_290.out; have hnc6 := NB290_289.out; have hcz7_0 : w5.cell? ⟨gb289, 0, none⟩ = some (.string a0_0) := (blk_cell BK289.out 0).trans rfl; have hcz7_1 : w5.cell? ⟨gb289, 1, none⟩ = some (.string a0_1) := (blk_cell BK289.out 1).trans rfl; have hfz7_0 := blk_frozen BK289.out 0; have hfz7_1 := blk_frozen BK289.out 1) | ((with_reducible refine gate_callee (f := 40) rfl ?_); refine goesL_ (some 10) rfl rfl Tryz.func40 (by kernel_rfl) rfl #[.string a0_0, .string (⟨#[45]⟩ : ByteArray)] rfl (by (try simp only [List.map_toArray, List.map_cons, List.map_nil]); first | done | rfl | (simp only [List.length_drop, List.length_take]; rfl)) ?_; (with_reducible refine (strings_CutPrefix.calls a0_0 (⟨#[45]⟩ : ByteArray) t291 t292 _ ?side1 A2.out).mono ?_); (case side1 => first | exact hGl | exact gl_below hGl (bl HB.out)); rintro e w' ⟨rfl, ⟨nd, rfl⟩⟩; refine ⟨_, rfl, ?_⟩))
 (try simp only [Act.put, List.setIfInBounds_toArray, List.set_cons_zero, List.set_cons_succ])
 go_cut [33] (fun v33 wc => ∃ (kq : Nat) (x33_2 : Bool), v33 = .bool x33_2 ∧ Aside0 (exact_read.j0 kq t291 t292 x33_2 a0_0 a0_1 = some (r1, r2, r3, r4)) ∧ Aside0 (kq ≤ k) ∧ Aside0 (wc.heap[gb289]? = some (.cells #[.string a0_0, .string a0_1] 30 (0, 0))) ∧ Aside0 (wc.heap[gb290]? = some (.cells #[.bool false, (.slice none 0 0), (.slice none 0 0)] 64 (0, 0))) ∧ Aside0 (Below w.heap.size w wc))
 case first =>
  have H := HC3.out
  clear HC3
  replace H := Option.bind_eq_some_iff.mp H
  obtain ⟨t293, A80, H⟩ := H
  replace H : (if t293 = true then ((exact_digits.f a0_1).bind fun t294 => (if t294 = true then (if a0_1.toList = ([48] : List UInt8) then (exact_read.j0 k t291 t292 true a0_0 a0_1) else (if t291.toList = ([48] : List UInt8) then (exact_read.j0 k t291 t292 t292 a0_0 a0_1) else (exact_read.j0 k t291 t292 false a0_0 a0_1))) else (exact_read.j0 k t291 t292 true a0_0 a0_1))) else (exact_read.j0 k t291 t292 true a0_0 a0_1)) = some (r1, r2, r3, r4) := H
  have A8 := Aside0.mk A80
  clear A80
  by_cases c9 : t293 = true
  ·subst c9
   have H1 : ((exact_digits.f a0_1).bind fun t294 => (if t294 = true then (if a0_1.toList = ([48] : List UInt8) then (exact_read.j0 k t291 t292 true a0_0 a0_1) else (if t291.toList = ([48] : List UInt8) then (exact_read.j0 k t291 t292 t292 a0_0 a0_1) else (exact_read.j0 k t291 t292 false a0_0 a0_1))) else (exact_read.j0 k t291 t292 true a0_0 a0_1))) = some (r1, r2, r3, r4) := by rw [if_pos rfl] at H; exact H
   clear H
   have H := H1
   clear H1
   replace H := Option.bind_eq_some_iff.mp H
   obtain ⟨t294, A100, H⟩ := H
   replace H : (if t294 = true then (if a0_1.toList = ([48] : List UInt8) then (exact_read.j0 k t291 t292 true a0_0 a0_1) else (if t291.toList = ([48] : List UInt8) then (exact_read.j0 k t291 t292 t292 a0_0 a0_1) else (exact_read.j0 k t291 t292 false a0_0 a0_1))) else (exact_read.j0 k t291 t292 true a0_0 a0_1)) = some (r1, r2, r3, r4) := H
   have A10 := Aside0.mk A100
   clear A100
   by_cases c11 : t294 = true
   ·subst c11
    have H1 : (if a0_1.toList = ([48] : List UInt8) then (exact_read.j0 k t291 t292 true a0_0 a0_1) else (if t291.toList = ([48] : List UInt8) then (exact_read.j0 k t291 t292 t292 a0_0 a0_1) else (exact_read.j0 k t291 t292 false a0_0 a0_1))) = some (r1, r2, r3, r4) := by rw [if_pos rfl] at H; exact H
    clear H
    have H := H1
    clear H1
    by_cases c12 : a0_1.toList = ([48] : List UInt8)
    ·rw [if_pos c12] at H
     have c12b0 : (a0_1.toList == ([48] : List UInt8)) = true := beq_iff_eq.mpr c12
     have c12b1 : (a0_1.toList != ([48] : List UInt8)) = false := bne_eq_false_iff_eq.mpr c12
     clear c12
     (first | rw [c12b0] | (simp only [i64_w, i32_w]; rw [c12b0]) | rw [c12b2] | skip)
     have H' := Aside0.mk H
     clear H
     go_wp2_with (first | ((with_reducible refine gate_callee (f := 57) rfl ?_); refine goesL_ (some 14) rfl rfl Tryz.func57 (by kernel_rfl) rfl #[.string t291] rfl (by (try simp only [List.map_toArray, List.map_cons, List.map_nil]); first | done | rfl | (simp only [List.length_drop, List.length_take]; rfl)) ?_; (with_reducible refine (exact_digits.calls t291 true _ ?side1 A8.out).mono ?_); (case side1 => first | exact hGl | exact gl_below hGl (bl HB.out)); rintro e w13 ⟨rfl, hb⟩; refine ⟨_, rfl, ?_⟩; have n0_ := Aside0.mk (blk_below (bk BK289.out) hb); have n1_ := Aside0.mk (blk_below (bk BK290.out) hb); have n2_ := Aside0.mk (below_step (bl HB.out) hb); clear BK289; clear BK290; clear HB; have BK289 := n0_; have BK290 := n1_; have HB := n2_; clear n0_ n1_ n2_; (try clear hb); (try clear hb2); (try clear hk); (try clear hi); have hnb14 := NB289_290.out; have hnc14 := NB290_289.out; have hcz15_0 : w13.cell? ⟨gb289, 0, none⟩ = some (.string a0_0) := (blk_cell BK289.out 0).trans rfl; have hcz15_1 : w13.cell? ⟨gb289, 1, none⟩ = some (.string a0_1) := (blk_cell BK289.out 1).trans rfl; have hfz15_0 := blk_frozen BK289.out 0; have hfz15_1 := blk_frozen BK289.out 1) | (go_at_call 57; (with_reducible refine (exact_digits.calls a0_1 true _ ?side1 A10.out).mono ?_); (case side1 => first | exact hGl | exact gl_below hGl (bl HB.out)); rintro e w16 ⟨rfl, hb⟩; have n0_ := Aside0.mk (blk_below (bk BK289.out) hb); have n1_ := Aside0.mk (blk_below (bk BK290.out) hb); have n2_ := Aside0.mk (below_step (bl HB.out) hb); clear BK289; clear BK290; clear HB; have BK289 := n0_; have BK290 := n1_; have HB := n2_; clear n0_ n1_ n2_; (try clear hb); (try clear hb2); (try clear hk); (try clear hi); have hcz17_0 : w16.cell? ⟨gb289, 0, none⟩ = some (.string a0_0) := (blk_cell BK289.out 0).trans rfl; have hcz17_1 : w16.cell? ⟨gb289, 1, none⟩ = some (.string a0_1) := (blk_cell BK289.out 1).trans rfl; have hfz17_0 := blk_frozen BK289.out 0; have hfz17_1 := blk_frozen BK289.out 1))
     go_meet
     case rel => exact ⟨_, (true), (by first | rfl | (simp; done) | (simp [*]; done)), H', ⟨by first | omega | exact Nat.le_refl _⟩, ⟨bk BK289.out⟩, ⟨bk BK290.out⟩, ⟨bl HB.out⟩⟩
    ·rw [if_neg c12] at H
     have c12b0 : (a0_1.toList == ([48] : List UInt8)) = false := beq_eq_false_iff_ne.mpr c12
     have c12b1 : (a0_1.toList != ([48] : List UInt8)) = true := bne_iff_ne.mpr c12
     (first | rw [c12b0] | (simp only [i64_w, i32_w]; rw [c12b0]) | rw [c12b2] | skip)
     by_cases c18 : t291.toList = ([48] : List UInt8)
     ·rw [if_pos c18] at H
      have c18b0 : (t291.toList == ([48] : List UInt8)) = true := beq_iff_eq.mpr c18
      have c18b1 : (t291.toList != ([48] : List UInt8)) = false := bne_eq_false_iff_eq.mpr c18
      clear c18
      have H' := Aside0.mk H
      clear H
      go_wp2_with (first | ((with_reducible refine gate_callee (f := 57) rfl ?_); refine goesL_ (some 14) rfl rfl Tryz.func57 (by kernel_rfl) rfl #[.string t291] rfl (by (try simp only [List.map_toArray, List.map_cons, List.map_nil]); first | done | rfl | (simp only [List.length_drop, List.length_take]; rfl)) ?_; (with_reducible refine (exact_digits.calls t291 true _ ?side1 A8.out).mono ?_); (case side1 => first | exact hGl | exact gl_below hGl (bl HB.out)); rintro e w19 ⟨rfl, hb⟩; refine ⟨_, rfl, ?_⟩; have n0_ := Aside0.mk (blk_below (bk BK289.out) hb); have n1_ := Aside0.mk (blk_below (bk BK290.out) hb); have n2_ := Aside0.mk (below_step (bl HB.out) hb); clear BK289; clear BK290; clear HB; have BK289 := n0_; have BK290 := n1_; have HB := n2_; clear n0_ n1_ n2_; (try clear hb); (try clear hb2); (try clear hk); (try clear hi); have hnb20 := NB289_290.out; have hnc20 := NB290_289.out; have hcz21_0 : w19.cell? ⟨gb289, 0, none⟩ = some (.string a0_0) := (blk_cell BK289.out 0).trans rfl; have hcz21_1 : w19.cell? ⟨gb289, 1, none⟩ = some (.string a0_1) := (blk_cell BK289.out 1).trans rfl; have hfz21_0 := blk_frozen BK289.out 0; have hfz21_1 := blk_frozen BK289.out 1) | (go_at_call 57; (with_reducible refine (exact_digits.calls a0_1 true _ ?side1 A10.out).mono ?_); (case side1 => first | exact hGl | exact gl_below hGl (bl HB.out)); rintro e w22 ⟨rfl, hb⟩; have n0_ := Aside0.mk (blk_below (bk BK289.out) hb); have n1_ := Aside0.mk (blk_below (bk BK290.out) hb); have n2_ := Aside0.mk (below_step (bl HB.out) hb); clear BK289; clear BK290; clear HB; have BK289 := n0_; have BK290 := n1_; have HB := n2_; clear n0_ n1_ n2_; (try clear hb); (try clear hb2); (try clear hk); (try clear hi); have hcz23_0 : w22.cell? ⟨gb289, 0, none⟩ = some (.string a0_0) := (blk_cell BK289.out 0).trans rfl; have hcz23_1 : w22.cell? ⟨gb289, 1, none⟩ = some (.string a0_1) := (blk_cell BK289.out 1).trans rfl; have hfz23_0 := blk_frozen BK289.out 0; have hfz23_1 := blk_frozen BK289.out 1))
      go_meet
      case rel => exact ⟨_, (t292), (by first | rfl | (simp; done) | (simp [*]; done)), H', ⟨by first | omega | exact Nat.le_refl _⟩, ⟨bk BK289.out⟩, ⟨bk BK290.out⟩, ⟨bl HB.out⟩⟩
     ·rw [if_neg c18] at H
      have c18b0 : (t291.toList == ([48] : List UInt8)) = false := beq_eq_false_iff_ne.mpr c18
      have c18b1 : (t291.toList != ([48] : List UInt8)) = true := bne_iff_ne.mpr c18
      have H' := Aside0.mk H
      clear H
      go_wp2_with (first | ((with_reducible refine gate_callee (f := 57) rfl ?_); refine goesL_ (some 14) rfl rfl Tryz.func57 (by kernel_rfl) rfl #[.string t291] rfl (by (try simp only [List.map_toArray, List.map_cons, List.map_nil]); first | done | rfl | (simp only [List.length_drop, List.length_take]; rfl)) ?_; (with_reducible refine (exact_digits.calls t291 true _ ?side1 A8.out).mono ?_); (case side1 => first | exact hGl | exact gl_below hGl (bl HB.out)); rintro e w24 ⟨rfl, hb⟩; refine ⟨_, rfl, ?_⟩; have n0_ := Aside0.mk (blk_below (bk BK289.out) hb); have n1_ := Aside0.mk (blk_below (bk BK290.out) hb); have n2_ := Aside0.mk (below_step (bl HB.out) hb); clear BK289; clear BK290; clear HB; have BK289 := n0_; have BK290 := n1_; have HB := n2_; clear n0_ n1_ n2_; (try clear hb); (try clear hb2); (try clear hk); (try clear hi); have hnb25 := NB289_290.out; have hnc25 := NB290_289.out; have hcz26_0 : w24.cell? ⟨gb289, 0, none⟩ = some (.string a0_0) := (blk_cell BK289.out 0).trans rfl; have hcz26_1 : w24.cell? ⟨gb289, 1, none⟩ = some (.string a0_1) := (blk_cell BK289.out 1).trans rfl; have hfz26_0 := blk_frozen BK289.out 0; have hfz26_1 := blk_frozen BK289.out 1) | (go_at_call 57; (with_reducible refine (exact_digits.calls a0_1 true _ ?side1 A10.out).mono ?_); (case side1 => first | exact hGl | exact gl_below hGl (bl HB.out)); rintro e w27 ⟨rfl, hb⟩; have n0_ := Aside0.mk (blk_below (bk BK289.out) hb); have n1_ := Aside0.mk (blk_below (bk BK290.out) hb); have n2_ := Aside0.mk (below_step (bl HB.out) hb); clear BK289; clear BK290; clear HB; have BK289 := n0_; have BK290 := n1_; have HB := n2_; clear n0_ n1_ n2_; (try clear hb); (try clear hb2); (try clear hk); (try clear hi); have hcz28_0 : w27.cell? ⟨gb289, 0, none⟩ = some (.string a0_0) := (blk_cell BK289.out 0).trans rfl; have hcz28_1 : w27.cell? ⟨gb289, 1, none⟩ = some (.string a0_1) := (blk_cell BK289.out 1).trans rfl; have hfz28_0 := blk_frozen BK289.out 0; have hfz28_1 := blk_frozen BK289.out 1))
      go_meet
      case rel => exact ⟨_, (false), (by first | rfl | (simp; done) | (simp [*]; done)), H', ⟨by first | omega | exact Nat.le_refl _⟩, ⟨bk BK289.out⟩, ⟨bk BK290.out⟩, ⟨bl HB.out⟩⟩
   ·replace c11 := Bool.eq_false_iff.mpr c11
    subst c11
    have H1 : (exact_read.j0 k t291 t292 true a0_0 a0_1) = some (r1, r2, r3, r4) := by rw [if_neg (show ¬ (false = true) by decide)] at H; exact H
    clear H
    have H := H1
    clear H1
    have H' := Aside0.mk H
    clear H
    go_wp2_with (first | ((with_reducible refine gate_callee (f := 57) rfl ?_); refine goesL_ (some 14) rfl rfl Tryz.func57 (by kernel_rfl) rfl #[.string t291] rfl (by (try simp only [List.map_toArray, List.map_cons, List.map_nil]); first | done | rfl | (simp only [List.length_drop, List.length_take]; rfl)) ?_; (with_reducible refine (exact_digits.calls t291 true _ ?side1 A8.out).mono ?_); (case side1 => first | exact hGl | exact gl_below hGl (bl HB.out)); rintro e w29 ⟨rfl, hb⟩; refine ⟨_, rfl, ?_⟩; have n0_ := Aside0.mk (blk_below (bk BK289.out) hb); have n1_ := Aside0.mk (blk_below (bk BK290.out) hb); have n2_ := Aside0.mk (below_step (bl HB.out) hb); clear BK289; clear BK290; clear HB; have BK289 := n0_; have BK290 := n1_; have HB := n2_; clear n0_ n1_ n2_; (try clear hb); (try clear hb2); (try clear hk); (try clear hi); have hnb30 := NB289_290.out; have hnc30 := NB290_289.out; have hcz31_0 : w29.cell? ⟨gb289, 0, none⟩ = some (.string a0_0) := (blk_cell BK289.out 0).trans rfl; have hcz31_1 : w29.cell? ⟨gb289, 1, none⟩ = some (.string a0_1) := (blk_cell BK289.out 1).trans rfl; have hfz31_0 := blk_frozen BK289.out 0; have hfz31_1 := blk_frozen BK289.out 1) | (go_at_call 57; (with_reducible refine (exact_digits.calls a0_1 false _ ?side1 A10.out).mono ?_); (case side1 => first | exact hGl | exact gl_below hGl (bl HB.out)); rintro e w32 ⟨rfl, hb⟩; have n0_ := Aside0.mk (blk_below (bk BK289.out) hb); have n1_ := Aside0.mk (blk_below (bk BK290.out) hb); have n2_ := Aside0.mk (below_step (bl HB.out) hb); clear BK289; clear BK290; clear HB; have BK289 := n0_; have BK290 := n1_; have HB := n2_; clear n0_ n1_ n2_; (try clear hb); (try clear hb2); (try clear hk); (try clear hi)))
    go_meet
    case rel => exact ⟨_, (true), (by first | rfl | (simp; done) | (simp [*]; done)), H', ⟨by first | omega | exact Nat.le_refl _⟩, ⟨bk BK289.out⟩, ⟨bk BK290.out⟩, ⟨bl HB.out⟩⟩
  ·replace c9 := Bool.eq_false_iff.mpr c9
   subst c9
   have H1 : (exact_read.j0 k t291 t292 true a0_0 a0_1) = some (r1, r2, r3, r4) := by rw [if_neg (show ¬ (false = true) by decide)] at H; exact H
   clear H
   have H := H1
   clear H1
   have H' := Aside0.mk H
   clear H
   go_wp2_with (first | ((with_reducible refine gate_callee (f := 57) rfl ?_); refine goesL_ (some 14) rfl rfl Tryz.func57 (by kernel_rfl) rfl #[.string t291] rfl (by (try simp only [List.map_toArray, List.map_cons, List.map_nil]); first | done | rfl | (simp only [List.length_drop, List.length_take]; rfl)) ?_; (with_reducible refine (exact_digits.calls t291 false _ ?side1 A8.out).mono ?_); (case side1 => first | exact hGl | exact gl_below hGl (bl HB.out)); rintro e w33 ⟨rfl, hb⟩; refine ⟨_, rfl, ?_⟩; have n0_ := Aside0.mk (blk_below (bk BK289.out) hb); have n1_ := Aside0.mk (blk_below (bk BK290.out) hb); have n2_ := Aside0.mk (below_step (bl HB.out) hb); clear BK289; clear BK290; clear HB; have BK289 := n0_; have BK290 := n1_; have HB := n2_; clear n0_ n1_ n2_; (try clear hb); (try clear hb2); (try clear hk); (try clear hi)))
   go_meet
   case rel => exact ⟨_, (true), (by first | rfl | (simp; done) | (simp [*]; done)), H', ⟨by first | omega | exact Nat.le_refl _⟩, ⟨bk BK289.out⟩, ⟨bk BK290.out⟩, ⟨bl HB.out⟩⟩
 case rest =>
  clear HC3
  try clear c1
  try clear c2
  try clear p2
  try clear c3
  try clear c4
  try clear c5
  try clear c6
  try clear c8
  try clear c9
  try clear c11
  try clear c12
  try clear c12b0
  try clear c12b1
  try clear c12b2
  try clear c14
  try clear c18
  try clear c18b0
  try clear c18b1
  try clear c20
  try clear c25
  try clear c30
  try clear hcz15_0
  try clear hcz15_1
  try clear hcz17_0
  try clear hcz17_1
  try clear hcz21_0
  try clear hcz21_1
  try clear hcz23_0
  try clear hcz23_1
  try clear hcz26_0
  try clear hcz26_1
  try clear hcz28_0
  try clear hcz28_1
  try clear hcz31_0
  try clear hcz31_1
  try clear hcz7_0
  try clear hcz7_1
  try clear hfz15_0
  try clear hfz15_1
  try clear hfz17_0
  try clear hfz17_1
  try clear hfz21_0
  try clear hfz21_1
  try clear hfz23_0
  try clear hfz23_1
  try clear hfz26_0
  try clear hfz26_1
  try clear hfz28_0
  try clear hfz28_1
  try clear hfz31_0
  try clear hfz31_1
  try clear hfz7_0
  try clear hfz7_1
  obtain ⟨kq, x33_2, rfl, HA, HJ2, BK289, BK290, HB⟩ := hcut
  cases kq with
  | zero => exact absurd HA.out (by simp [exact_read.j0])
  | succ kj2 =>
   have H := HA.out
   clear HA
   simp only [exact_read.j0] at H
   by_cases c34 : x33_2 = true
   ·subst c34
    have H1 : (some (false, ([] : List Int), ([] : List Int), 4)) = some (r1, r2, r3, r4) := by rw [if_pos rfl] at H; exact H
    clear H
    have H := H1
    clear H1
    simp only [Option.some.injEq, Prod.mk.injEq] at H
    obtain ⟨rfl, rfl, rfl, rfl⟩ := H
    have hnb35 := NB290_289.out
    have hnc35 := NB289_290.out
    have hcz36_0 : wc.cell? ⟨gb290, 0, none⟩ = some (.bool false) := (blk_cell BK290.out 0).trans rfl
    have hcz36_1 : wc.cell? ⟨gb290, 1, none⟩ = some (.slice none 0 0) := (blk_cell BK290.out 1).trans rfl
    have hcz36_2 : wc.cell? ⟨gb290, 2, none⟩ = some (.slice none 0 0) := (blk_cell BK290.out 2).trans rfl
    have hfz36_0 := blk_frozen BK290.out 0
    have hfz36_1 := blk_frozen BK290.out 1
    have hfz36_2 := blk_frozen BK290.out 2
    go_wp2
    refine bodyPost_ret (results_ct rfl _ _ gb290 64 #[.bool false, .slice none 0 0, .slice none 0 0] (0, 0) _ rfl (by (with_reducible repeat (first | refine blk_drewN ?_ _ | refine blk_drew ?_ | refine blk_alloc ?_ _)); refine blk_put (cs := #[.bool false, .slice none 0 0, .slice none 0 0]) ?_ 2 _ rfl; (with_reducible repeat (first | refine blk_drewN ?_ _ | refine blk_drew ?_ | refine blk_alloc ?_ _)); refine blk_put (cs := #[.bool false, .slice none 0 0, .slice none 0 0]) ?_ 1 _ rfl; (with_reducible repeat (first | refine blk_drewN ?_ _ | refine blk_drew ?_ | refine blk_alloc ?_ _)); refine blk_put (cs := #[.bool false, .slice none 0 0, .slice none 0 0]) ?_ 0 _ rfl; (with_reducible repeat (first | refine blk_drewN ?_ _ | refine blk_drew ?_ | refine blk_alloc ?_ _)); exact BK290.out) Tryz.underlying64 rfl (by kernel_rfl)) rfl ?_
    exact ⟨_, _, by first | rfl | (simp [errW_none, errW_some] <;> rfl) | (simp [*, errW_none, errW_some] <;> rfl), Kd.V_nil _ _ _ _ _, Kd.V_nil _ _ _ _ _, bl HB.out⟩
   ·replace c34 := Bool.eq_false_iff.mpr c34
    subst c34
    have H1 : (if (t291.size : Int) > 300 then (exact_read.j1 kj2 t291 t292 true a0_0 a0_1) else (exact_read.j1 kj2 t291 t292 (decide ((a0_1.size : Int) > 300)) a0_0 a0_1)) = some (r1, r2, r3, r4) := by rw [if_neg (show ¬ (false = true) by decide)] at H; exact H
    clear H
    have H := H1
    clear H1
    have HC37 := Aside0.mk H
    clear H
    go_upto_region 4 with (fail)
    go_cut [43] (fun v43 wc => ∃ (kq : Nat) (x43_36 : Bool), v43 = .bool x43_36 ∧ Aside0 (exact_read.j1 kq t291 t292 x43_36 a0_0 a0_1 = some (r1, r2, r3, r4)) ∧ Aside0 (kq ≤ kj2) ∧ Aside0 (wc.heap[gb289]? = some (.cells #[.string a0_0, .string a0_1] 30 (0, 0))) ∧ Aside0 (wc.heap[gb290]? = some (.cells #[.bool false, (.slice none 0 0), (.slice none 0 0)] 64 (0, 0))) ∧ Aside0 (Below w.heap.size w wc))
    case first =>
     have H := HC37.out
     clear HC37
     by_cases c38 : (t291.size : Int) > 300
     ·rw [if_pos c38] at H
      have c38b0 : decide (300 < (t291.size : Int)) = true := decide_eq_true c38
      have c38b1 : decide (300 < t291.size) = true := decide_eq_true (by omega)
      clear c38
      (first | rw [c38b0] | (simp only [i64_w, i32_w]; rw [c38b0]) | rw [c38b2] | skip)
      have H' := Aside0.mk H
      clear H
      go_wp2
      go_meet
      case rel => exact ⟨_, (true), (by first | rfl | (simp; done) | (simp [*]; done)), H', ⟨by have := HJ2.out; first | omega | exact Nat.le_refl _⟩, ⟨bk BK289.out⟩, ⟨bk BK290.out⟩, ⟨bl HB.out⟩⟩
     ·rw [if_neg c38] at H
      have c38b0 : decide (300 < (t291.size : Int)) = false := decide_eq_false c38
      have c38b1 : decide (300 < t291.size) = false := decide_eq_false (by omega)
      clear c38
      (first | rw [c38b0] | (simp only [i64_w, i32_w]; rw [c38b0]) | rw [c38b2] | skip)
      have H' := Aside0.mk H
      clear H
      have hnb39 := NB289_290.out
      have hnc39 := NB290_289.out
      have hcz40_0 : wc.cell? ⟨gb289, 0, none⟩ = some (.string a0_0) := (blk_cell BK289.out 0).trans rfl
      have hcz40_1 : wc.cell? ⟨gb289, 1, none⟩ = some (.string a0_1) := (blk_cell BK289.out 1).trans rfl
      have hfz40_0 := blk_frozen BK289.out 0
      have hfz40_1 := blk_frozen BK289.out 1
      go_wp2
      go_meet
      case rel => exact ⟨_, (decide ((a0_1.size : Int) > 300)), (by first | rfl | (simp; done) | (simp [*]; done)), H', ⟨by have := HJ2.out; first | omega | exact Nat.le_refl _⟩, ⟨bk BK289.out⟩, ⟨bk BK290.out⟩, ⟨bl HB.out⟩⟩
    case rest =>
     clear HC37
     try clear c1
     try clear c2
     try clear p2
     try clear c3
     try clear c4
     try clear c5
     try clear c6
     try clear c8
     try clear c9
     try clear c11
     try clear c12
     try clear c12b0
     try clear c12b1
     try clear c12b2
     try clear c14
     try clear c18
     try clear c18b0
     try clear c18b1
     try clear c20
     try clear c25
     try clear c30
     try clear c34
     try clear c35
     try clear c38
     try clear c38b0
     try clear c38b1
     try clear c38b2
     try clear c39
     try clear hcz15_0
     try clear hcz15_1
     try clear hcz17_0
     try clear hcz17_1
     try clear hcz21_0
     try clear hcz21_1
     try clear hcz23_0
     try clear hcz23_1
     try clear hcz26_0
     try clear hcz26_1
     try clear hcz28_0
     try clear hcz28_1
     try clear hcz31_0
     try clear hcz31_1
     try clear hcz36_0
     try clear hcz36_1
     try clear hcz36_2
     try clear hcz40_0
     try clear hcz40_1
     try clear hcz7_0
     try clear hcz7_1
     try clear hfz15_0
     try clear hfz15_1
     try clear hfz17_0
     try clear hfz17_1
     try clear hfz21_0
     try clear hfz21_1
     try clear hfz23_0
     try clear hfz23_1
     try clear hfz26_0
     try clear hfz26_1
     try clear hfz28_0
     try clear hfz28_1
     try clear hfz31_0
     try clear hfz31_1
     try clear hfz36_0
     try clear hfz36_1
     try clear hfz36_2
     try clear hfz40_0
     try clear hfz40_1
     try clear hfz7_0
     try clear hfz7_1
     try clear p2
     obtain ⟨kq, x43_36, rfl, HA, HJ36, BK289, BK290, HB⟩ := hcut
     cases kq with
     | zero => exact absurd HA.out (by simp [exact_read.j1])
     | succ kj36 =>
      have H := HA.out
      clear HA
      simp only [exact_read.j1] at H
      by_cases c41 : x43_36 = true
      ·subst c41
       have H1 : (some (false, ([] : List Int), ([] : List Int), 3)) = some (r1, r2, r3, r4) := by rw [if_pos rfl] at H; exact H
       clear H
       have H := H1
       clear H1
       simp only [Option.some.injEq, Prod.mk.injEq] at H
       obtain ⟨rfl, rfl, rfl, rfl⟩ := H
       have hnb42 := NB290_289.out
       have hnc42 := NB289_290.out
       have hcz43_0 : wc.cell? ⟨gb290, 0, none⟩ = some (.bool false) := (blk_cell BK290.out 0).trans rfl
       have hcz43_1 : wc.cell? ⟨gb290, 1, none⟩ = some (.slice none 0 0) := (blk_cell BK290.out 1).trans rfl
       have hcz43_2 : wc.cell? ⟨gb290, 2, none⟩ = some (.slice none 0 0) := (blk_cell BK290.out 2).trans rfl
       have hfz43_0 := blk_frozen BK290.out 0
       have hfz43_1 := blk_frozen BK290.out 1
       have hfz43_2 := blk_frozen BK290.out 2
       go_wp2
       refine bodyPost_ret (results_ct rfl _ _ gb290 64 #[.bool false, .slice none 0 0, .slice none 0 0] (0, 0) _ rfl (by (with_reducible repeat (first | refine blk_drewN ?_ _ | refine blk_drew ?_ | refine blk_alloc ?_ _)); refine blk_put (cs := #[.bool false, .slice none 0 0, .slice none 0 0]) ?_ 2 _ rfl; (with_reducible repeat (first | refine blk_drewN ?_ _ | refine blk_drew ?_ | refine blk_alloc ?_ _)); refine blk_put (cs := #[.bool false, .slice none 0 0, .slice none 0 0]) ?_ 1 _ rfl; (with_reducible repeat (first | refine blk_drewN ?_ _ | refine blk_drew ?_ | refine blk_alloc ?_ _)); refine blk_put (cs := #[.bool false, .slice none 0 0, .slice none 0 0]) ?_ 0 _ rfl; (with_reducible repeat (first | refine blk_drewN ?_ _ | refine blk_drew ?_ | refine blk_alloc ?_ _)); exact BK290.out) Tryz.underlying64 rfl (by kernel_rfl)) rfl ?_
       exact ⟨_, _, by first | rfl | (simp [errW_none, errW_some] <;> rfl) | (simp [*, errW_none, errW_some] <;> rfl), Kd.V_nil _ _ _ _ _, Kd.V_nil _ _ _ _ _, bl HB.out⟩
      ·replace c41 := Bool.eq_false_iff.mpr c41
       subst c41
       have H1 : ((exact_parse.f kj36 t291).bind fun t295 => ((exact_parse.f kj36 a0_1).bind fun t298 => ((exact_common.f kj36 t295 t298).bind fun t302 => ((exact_nat_one.f t302).bind fun t305 => (if t305 = true then (some (t292, t295, t298, 0)) else (some (false, ([] : List Int), ([] : List Int), 4))))))) = some (r1, r2, r3, r4) := by rw [if_neg (show ¬ (false = true) by decide)] at H; exact H
       clear H
       have H := H1
       clear H1
       replace H := Option.bind_eq_some_iff.mp H
       obtain ⟨t295, A440, H⟩ := H
       replace H : ((exact_parse.f kj36 a0_1).bind fun t298 => ((exact_common.f kj36 t295 t298).bind fun t302 => ((exact_nat_one.f t302).bind fun t305 => (if t305 = true then (some (t292, t295, t298, 0)) else (some (false, ([] : List Int), ([] : List Int), 4)))))) = some (r1, r2, r3, r4) := H
       have A44 := Aside0.mk A440
       clear A440
       replace H := Option.bind_eq_some_iff.mp H
       obtain ⟨t298, A450, H⟩ := H
       replace H : ((exact_common.f kj36 t295 t298).bind fun t302 => ((exact_nat_one.f t302).bind fun t305 => (if t305 = true then (some (t292, t295, t298, 0)) else (some (false, ([] : List Int), ([] : List Int), 4))))) = some (r1, r2, r3, r4) := H
       have A45 := Aside0.mk A450
       clear A450
       replace H := Option.bind_eq_some_iff.mp H
       obtain ⟨t302, A460, H⟩ := H
       replace H : ((exact_nat_one.f t302).bind fun t305 => (if t305 = true then (some (t292, t295, t298, 0)) else (some (false, ([] : List Int), ([] : List Int), 4)))) = some (r1, r2, r3, r4) := H
       have A46 := Aside0.mk A460
       clear A460
       replace H := Option.bind_eq_some_iff.mp H
       obtain ⟨t305, A470, H⟩ := H
       replace H : (if t305 = true then (some (t292, t295, t298, 0)) else (some (false, ([] : List Int), ([] : List Int), 4))) = some (r1, r2, r3, r4) := H
       have A47 := Aside0.mk A470
       clear A470
       by_cases c48 : t305 = true
       ·subst c48
        have H1 : (some (t292, t295, t298, 0)) = some (r1, r2, r3, r4) := by rw [if_pos rfl] at H; exact H
        clear H
        have H := H1
        clear H1
        simp only [Option.some.injEq, Prod.mk.injEq] at H
        obtain ⟨rfl, rfl, rfl, rfl⟩ := H
        try go_wp2
        have n0_ := Aside0.mk (blk_drew BK289.out)
        have n1_ := Aside0.mk (blk_drew BK290.out)
        have n2_ := Aside0.mk (below_drew1 HB.out)
        clear BK289
        clear BK290
        clear HB
        have BK289 := n0_
        have BK290 := n1_
        have HB := n2_
        clear n0_ n1_ n2_
        refine start_ (n := 9) (S := fun w' => w'.cell? ⟨gb289, 0, none⟩ = some (.string a0_0) ∧ w'.cell? ⟨gb289, 1, none⟩ = some (.string a0_1)) (ds := []) #[false, false, false, false, false, false, false, false, false] (by kernel_rfl) rfl rfl ⟨(blk_cell BK289.out 0).trans rfl, (blk_cell BK289.out 1).trans rfl⟩ (fun hHeld => ?_); refine with_tabW exact_read.tab6 exact_read.bits6 (fun HT_ HW_ => ?_)
        generalize wc.drew = w49 at BK289 BK290 HB hHeld ⊢
        refine pure_ (i := 0) (N := some 45) (v := ?_) (a' := ?_) #[true, false, false, false, false, false, false, false, false] rfl rfl (any_of HT_.out (by kernel_rfl)) (fun _ _ _ h => h) (Or.inl ⟨by rfl, ?_⟩) ?_ ?_
        rotate_left
        ·intro w'
         go_simp
         with_reducible rfl
        rotate_left
        ·simp only [Act.put, List.setIfInBounds_toArray, List.set_cons_zero, List.set_cons_succ, i64_w, i32_w]
         rfl
        refine pure_ (i := 1) (N := some 46) (v := ?_) (a' := ?_) #[true, true, false, false, false, false, false, false, false] rfl rfl (any_of HT_.out (by kernel_rfl)) (fun _ _ _ h => h) (Or.inl ⟨by rfl, ?_⟩) ?_ ?_
        rotate_left
        ·intro w'
         go_simp
         with_reducible rfl
        rotate_left
        ·simp only [Act.put, List.setIfInBounds_toArray, List.set_cons_zero, List.set_cons_succ, i64_w, i32_w]
         rfl
        refine pure_ (i := 3) (N := some 48) (v := ?_) (a' := ?_) #[true, true, false, true, false, false, false, false, false] rfl rfl (any_of HT_.out (by kernel_rfl)) (fun _ _ _ h => h) (Or.inl ⟨by rfl, ?_⟩) ?_ ?_
        rotate_left
        ·intro w'
         go_simp
         with_reducible rfl
        rotate_left
        ·simp only [Act.put, List.setIfInBounds_toArray, List.set_cons_zero, List.set_cons_succ, i64_w, i32_w]
         rfl
        refine take_ (i := 4) (N := some 49) (v := ?_) (a' := ?_) #[true, true, false, true, true, false, false, false, false] rfl rfl (take_ofW HT_.out HW_.out (by kernel_rfl)) (fun _ _ _ h => h) (Or.inl ⟨by rfl, ?_⟩) hHeld ?_ ?_
        rotate_left
        ·rintro w' ⟨s0, s1⟩
         go_simp
         with_reducible rfl
        rotate_left
        ·simp only [Act.put, List.setIfInBounds_toArray, List.set_cons_zero, List.set_cons_succ, i64_w, i32_w]
         rfl
        refine join_ (σ := Value × Value × Nat) 1 #[true, true, true, true, true, true, true, true, false] (fun s_ => [(47, s_.1), (50, s_.2.1), (6, .pointer (some ⟨s_.2.2, 0, none⟩)), (51, .agg #[.bool t292, s_.1, s_.2.1])]) (fun s_ w' => (w'.cell? ⟨gb289, 0, none⟩ = some (.string a0_0) ∧ w'.cell? ⟨gb289, 1, none⟩ = some (.string a0_1)) ∧ (Kd.V (Kd.int .u32) 69 w' w.heap.size (fun k_ => (w.heap.size ≤ k_) ∧ k_ ≠ gb289 ∧ k_ ≠ gb290 ∧ k_ ≠ s_.2.2) s_.1 t295) ∧ (Kd.V (Kd.int .u32) 69 w' w.heap.size (fun k_ => (w.heap.size ≤ k_) ∧ k_ ≠ gb289 ∧ k_ ≠ gb290 ∧ k_ ≠ s_.2.2) s_.2.1 t298) ∧ (w'.heap[gb289]? = some (.cells #[.string a0_0, .string a0_1] 30 (0, 0))) ∧ (w'.heap[gb290]? = some (.cells #[.bool false, .slice none 0 0, .slice none 0 0] 64 (0, 0))) ∧ (w'.heap[s_.2.2]? = some (.cells #[.bool false, .slice none 0 0, .slice none 0 0] 64 (0, 0))) ∧ (w.heap.size ≤ s_.2.2) ∧ (w.heap.size ≤ s_.2.2) ∧ (gb289 ≠ s_.2.2) ∧ (s_.2.2 ≠ gb289) ∧ (gb290 ≠ s_.2.2) ∧ (s_.2.2 ≠ gb290) ∧ (Below w.heap.size w w')) ?_ ?_
        rotate_left
        ·intro hCont
         refine two_ (i := 2) (j := 7) (Ni := some 47) (Nj := some 6) #[true, true, true, true, true, false, false, false, false] #[true, true, false, true, true, false, false, true, false] rfl rfl rfl rfl (two_of HT_.out (by kernel_rfl)) (by decide) (by decide) (fun K hK => ?_) (fun K hK => ?_)
         ·skip
          refine goes_ Tryz.func58 (by kernel_rfl) rfl #[.string t291] (by rfl) rfl rfl (by (try simp only [List.map_toArray, List.map_cons, List.map_nil]); first | done | rfl | (simp only [List.length_drop, List.length_take]; rfl)) ?_
          with_reducible refine (exact_parse.calls kj36 t291 t295 _ ?side1 A44.out).mono ?_
          (case side1 => first | exact hGl | exact gl_below hGl (bl HB.out))
          rintro e w50 ⟨v296, rfl, ho0, hb⟩
          refine ⟨_, rfl, ?_⟩
          have n0_ := Aside0.mk (Kd.V_lower (Kd.V_mono (ok' := fun k_ => (w.heap.size ≤ k_) ∧ k_ ≠ gb289 ∧ k_ ≠ gb290) ho0 (fun k_ hk_ => ⟨(Nat.le_trans (below_size (bl HB.out)) hk_), (Kd.freshB (bk BK289.out) k_ hk_), (Kd.freshB (bk BK290.out) k_ hk_)⟩)) (below_size (bl HB.out)))
          have n1_ := Aside0.mk (blk_below (bk BK289.out) hb)
          have n2_ := Aside0.mk (blk_below (bk BK290.out) hb)
          have n3_ := Aside0.mk (below_step (bl HB.out) hb)
          clear BK289
          clear BK290
          clear HB
          have HO297 := n0_
          have BK289 := n1_
          have BK290 := n2_
          have HB := n3_
          clear n0_ n1_ n2_ n3_
          (try clear hb)
          (try clear hb2)
          (try clear hk)
          (try clear hi)
          (try clear ho0)
          refine hK.out _ _ ⟨(blk_cell BK289.out 0).trans rfl, (blk_cell BK289.out 1).trans rfl⟩ (fun hHeld => ?_)
          clear hK K
          refine norm_ (a' := ?_) ?_ ?_
          rotate_left
          ·show Act.put _ (some 47) _ = _
           simp only [Act.put, List.setIfInBounds_toArray, List.set_cons_zero, List.set_cons_succ, i64_w, i32_w]
           rfl
          refine two_ (i := 5) (j := 7) (Ni := some 50) (Nj := some 6) #[true, true, true, true, true, true, false, false, false] #[true, true, true, true, true, false, false, true, false] rfl rfl rfl rfl (two_of HT_.out (by kernel_rfl)) (by decide) (by decide) (fun K hK => ?_) (fun K hK => ?_)
          ·skip
           refine goes_ Tryz.func58 (by kernel_rfl) rfl #[.string a0_1] (by rfl) rfl rfl (by (try simp only [List.map_toArray, List.map_cons, List.map_nil]); first | done | rfl | (simp only [List.length_drop, List.length_take]; rfl)) ?_
           with_reducible refine (exact_parse.calls kj36 a0_1 t298 _ ?side1 A45.out).mono ?_
           (case side1 => first | exact hGl | exact gl_below hGl (bl HB.out))
           rintro e w51 ⟨v299, rfl, ho0, hb⟩
           refine ⟨_, rfl, ?_⟩
           have n0_ := Aside0.mk (Kd.V_below (vl HO297.out) hb)
           have n1_ := Aside0.mk (Kd.V_lower (Kd.V_mono (ok' := fun k_ => (w.heap.size ≤ k_) ∧ k_ ≠ gb289 ∧ k_ ≠ gb290) ho0 (fun k_ hk_ => ⟨(Nat.le_trans (below_size (bl HB.out)) hk_), (Kd.freshB (bk BK289.out) k_ hk_), (Kd.freshB (bk BK290.out) k_ hk_)⟩)) (below_size (bl HB.out)))
           have n2_ := Aside0.mk (blk_below (bk BK289.out) hb)
           have n3_ := Aside0.mk (blk_below (bk BK290.out) hb)
           have n4_ := Aside0.mk (below_step (bl HB.out) hb)
           clear HO297
           clear BK289
           clear BK290
           clear HB
           have HO297 := n0_
           have HO300 := n1_
           have BK289 := n2_
           have BK290 := n3_
           have HB := n4_
           clear n0_ n1_ n2_ n3_ n4_
           (try clear hb)
           (try clear hb2)
           (try clear hk)
           (try clear hi)
           (try clear ho0)
           obtain ⟨Ao52, co52, eo52⟩ := Kd.V_slice HO300.out
           (first | subst eo52 | (injection eo52 with f1_ f2_ f3_; have f4_ := f1_.symm; have f5_ := f3_.symm; clear f1_ f2_ f3_; subst f4_; subst f5_))
           obtain ⟨Ao53, co53, eo53⟩ := Kd.V_slice HO297.out
           (first | subst eo53 | (injection eo53 with f1_ f2_ f3_; have f4_ := f1_.symm; have f5_ := f3_.symm; clear f1_ f2_ f3_; subst f4_; subst f5_))
           refine hK.out _ _ ⟨(blk_cell BK289.out 0).trans rfl, (blk_cell BK289.out 1).trans rfl⟩ (fun hHeld => ?_)
           clear hK K
           refine norm_ (a' := ?_) ?_ ?_
           rotate_left
           ·show Act.put _ (some 50) _ = _
            simp only [Act.put, List.setIfInBounds_toArray, List.set_cons_zero, List.set_cons_succ, i64_w, i32_w]
            rfl
           refine pure_ (i := 6) (N := some 51) (v := ?_) (a' := ?_) #[true, true, true, true, true, true, true, false, false] rfl rfl (any_of HT_.out (by kernel_rfl)) (fun _ _ _ h => h) (Or.inl ⟨by rfl, ?_⟩) ?_ ?_
           rotate_left
           ·intro w'
            go_simp
            with_reducible rfl
           rotate_left
           ·simp only [Act.put, List.setIfInBounds_toArray, List.set_cons_zero, List.set_cons_succ, i64_w, i32_w]
            rfl
           refine one_ (i := 7) (N := some 6) #[true, true, true, true, true, true, true, true, false] rfl rfl (one_of HT_.out (by kernel_rfl)) (by decide) (fun K hK => ?_)
           refine box_step ?hg (N := 6) ?hd (cs := #[.bool false, .slice none 0 0, .slice none 0 0]) (t := 64) ?hr ?_; (case hd => rfl); (case hg => rfl); (case hr => first | (go_simp; done) | (go_simp; rfl))
           intro gb301 hg w54 hbox hb
           have n0_ := Aside0.mk (Kd.V_below (Kd.V_elderB (vl HO297.out) gb301 (Nat.le_of_eq hg.symm)) hb)
           have n1_ := Aside0.mk (Kd.V_below (Kd.V_elderB (vl HO300.out) gb301 (Nat.le_of_eq hg.symm)) hb)
           have n2_ := Aside0.mk (blk_below (bk BK289.out) hb)
           have n3_ := Aside0.mk (blk_below (bk BK290.out) hb)
           have n4_ := Aside0.mk (below_step (bl HB.out) hb)
           have n5_ := Aside0.mk (hbox)
           have n6_ := Aside0.mk (szg hg (bl HB.out))
           have n7_ := Aside0.mk (szg hg (bl HB.out))
           have n8_ := Aside0.mk (ntl hg (bk BK289.out))
           have n9_ := Aside0.mk (ntg hg (bk BK289.out))
           have n10_ := Aside0.mk (ntl hg (bk BK290.out))
           have n11_ := Aside0.mk (ntg hg (bk BK290.out))
           clear HO297
           clear HO300
           clear BK289
           clear BK290
           clear HB
           have HO297 := n0_
           have HO300 := n1_
           have BK289 := n2_
           have BK290 := n3_
           have HB := n4_
           have BK301 := n5_
           have GW301 := n6_
           have GE301 := n7_
           have NB289_301 := n8_
           have NB301_289 := n9_
           have NB290_301 := n10_
           have NB301_290 := n11_
           clear n0_ n1_ n2_ n3_ n4_ n5_ n6_ n7_ n8_ n9_ n10_ n11_
           clear hb hbox hg
           refine hK.out _ _ ⟨(blk_cell BK289.out 0).trans rfl, (blk_cell BK289.out 1).trans rfl⟩ (fun hHeld => ?_)
           clear hK K
           refine norm_ (a' := ?_) ?_ ?_
           rotate_left
           ·show Act.put _ (some 6) _ = _
            simp only [Act.put, List.setIfInBounds_toArray, List.set_cons_zero, List.set_cons_succ, i64_w, i32_w]
            rfl
           exact norm_ (by simp only [putAll, Act.put, List.setIfInBounds_toArray, List.set_cons_zero, List.set_cons_succ]) (hCont (.slice Ao53 t295.length co53, .slice Ao52 t298.length co52, gb301) _ ⟨hHeld, (by (with_reducible repeat (first | apply Kd.V_alloc | apply Kd.V_drewN | apply Kd.V_drew)); exact Kd.V_mono HO297.out (fun _ hk => ⟨hk.1.1, ⟨hk.1.2.1, ⟨hk.1.2.2, hk.2⟩⟩⟩)), (by (with_reducible repeat (first | apply Kd.V_alloc | apply Kd.V_drewN | apply Kd.V_drew)); exact Kd.V_mono HO300.out (fun _ hk => ⟨hk.1.1, ⟨hk.1.2.1, ⟨hk.1.2.2, hk.2⟩⟩⟩)), (bk BK289.out), (bk BK290.out), (bk BK301.out), GW301.out, GE301.out, NB289_301.out, NB301_289.out, NB290_301.out, NB301_290.out, (bl HB.out)⟩)
          ·skip
           refine box_step ?hg (N := 6) ?hd (cs := #[.bool false, .slice none 0 0, .slice none 0 0]) (t := 64) ?hr ?_; (case hd => rfl); (case hg => rfl); (case hr => first | (go_simp; done) | (go_simp; rfl))
           intro gb301 hg w51 hbox hb
           have n0_ := Aside0.mk (Kd.V_below (Kd.V_elderB (vl HO297.out) gb301 (Nat.le_of_eq hg.symm)) hb)
           have n1_ := Aside0.mk (blk_below (bk BK289.out) hb)
           have n2_ := Aside0.mk (blk_below (bk BK290.out) hb)
           have n3_ := Aside0.mk (below_step (bl HB.out) hb)
           have n4_ := Aside0.mk (hbox)
           have n5_ := Aside0.mk (szg hg (bl HB.out))
           have n6_ := Aside0.mk (szg hg (bl HB.out))
           have n7_ := Aside0.mk (ntl hg (bk BK289.out))
           have n8_ := Aside0.mk (ntg hg (bk BK289.out))
           have n9_ := Aside0.mk (ntl hg (bk BK290.out))
           have n10_ := Aside0.mk (ntg hg (bk BK290.out))
           clear HO297
           clear BK289
           clear BK290
           clear HB
           have HO297 := n0_
           have BK289 := n1_
           have BK290 := n2_
           have HB := n3_
           have BK301 := n4_
           have GW301 := n5_
           have GE301 := n6_
           have NB289_301 := n7_
           have NB301_289 := n8_
           have NB290_301 := n9_
           have NB301_290 := n10_
           clear n0_ n1_ n2_ n3_ n4_ n5_ n6_ n7_ n8_ n9_ n10_
           clear hb hbox hg
           refine hK.out _ _ ⟨(blk_cell BK289.out 0).trans rfl, (blk_cell BK289.out 1).trans rfl⟩ (fun hHeld => ?_)
           clear hK K
           refine norm_ (a' := ?_) ?_ ?_
           rotate_left
           ·show Act.put _ (some 6) _ = _
            simp only [Act.put, List.setIfInBounds_toArray, List.set_cons_zero, List.set_cons_succ, i64_w, i32_w]
            rfl
           refine one_ (i := 5) (N := some 50) #[true, true, true, true, true, true, false, true, false] rfl rfl (one_of HT_.out (by kernel_rfl)) (by decide) (fun K hK => ?_)
           refine goes_ Tryz.func58 (by kernel_rfl) rfl #[.string a0_1] (by rfl) rfl rfl (by (try simp only [List.map_toArray, List.map_cons, List.map_nil]); first | done | rfl | (simp only [List.length_drop, List.length_take]; rfl)) ?_
           with_reducible refine (exact_parse.calls kj36 a0_1 t298 _ ?side1 A45.out).mono ?_
           (case side1 => first | exact hGl | exact gl_below hGl (bl HB.out))
           rintro e w52 ⟨v299, rfl, ho0, hb⟩
           refine ⟨_, rfl, ?_⟩
           have n0_ := Aside0.mk (Kd.V_below (vl HO297.out) hb)
           have n1_ := Aside0.mk (Kd.V_lower (Kd.V_mono (ok' := fun k_ => (w.heap.size ≤ k_) ∧ k_ ≠ gb289 ∧ k_ ≠ gb290 ∧ k_ ≠ gb301) ho0 (fun k_ hk_ => ⟨(Nat.le_trans (below_size (bl HB.out)) hk_), (Kd.freshB (bk BK289.out) k_ hk_), (Kd.freshB (bk BK290.out) k_ hk_), (Kd.freshB (bk BK301.out) k_ hk_)⟩)) (below_size (bl HB.out)))
           have n2_ := Aside0.mk (blk_below (bk BK289.out) hb)
           have n3_ := Aside0.mk (blk_below (bk BK290.out) hb)
           have n4_ := Aside0.mk (blk_below (bk BK301.out) hb)
           have n5_ := Aside0.mk (below_step (bl HB.out) hb)
           clear HO297
           clear BK289
           clear BK290
           clear BK301
           clear HB
           have HO297 := n0_
           have HO300 := n1_
           have BK289 := n2_
           have BK290 := n3_
           have BK301 := n4_
           have HB := n5_
           clear n0_ n1_ n2_ n3_ n4_ n5_
           (try clear hb)
           (try clear hb2)
           (try clear hk)
           (try clear hi)
           (try clear ho0)
           obtain ⟨Ao53, co53, eo53⟩ := Kd.V_slice HO300.out
           (first | subst eo53 | (injection eo53 with f1_ f2_ f3_; have f4_ := f1_.symm; have f5_ := f3_.symm; clear f1_ f2_ f3_; subst f4_; subst f5_))
           obtain ⟨Ao54, co54, eo54⟩ := Kd.V_slice HO297.out
           (first | subst eo54 | (injection eo54 with f1_ f2_ f3_; have f4_ := f1_.symm; have f5_ := f3_.symm; clear f1_ f2_ f3_; subst f4_; subst f5_))
           refine hK.out _ _ ⟨(blk_cell BK289.out 0).trans rfl, (blk_cell BK289.out 1).trans rfl⟩ (fun hHeld => ?_)
           clear hK K
           refine norm_ (a' := ?_) ?_ ?_
           rotate_left
           ·show Act.put _ (some 50) _ = _
            simp only [Act.put, List.setIfInBounds_toArray, List.set_cons_zero, List.set_cons_succ, i64_w, i32_w]
            rfl
           refine pure_ (i := 6) (N := some 51) (v := ?_) (a' := ?_) #[true, true, true, true, true, true, true, true, false] rfl rfl (any_of HT_.out (by kernel_rfl)) (fun _ _ _ h => h) (Or.inl ⟨by rfl, ?_⟩) ?_ ?_
           rotate_left
           ·intro w'
            go_simp
            with_reducible rfl
           rotate_left
           ·simp only [Act.put, List.setIfInBounds_toArray, List.set_cons_zero, List.set_cons_succ, i64_w, i32_w]
            rfl
           exact norm_ (by simp only [putAll, Act.put, List.setIfInBounds_toArray, List.set_cons_zero, List.set_cons_succ]) (hCont (.slice Ao54 t295.length co54, .slice Ao53 t298.length co53, gb301) _ ⟨hHeld, (by (with_reducible repeat (first | apply Kd.V_alloc | apply Kd.V_drewN | apply Kd.V_drew)); exact Kd.V_mono HO297.out (fun _ hk => ⟨hk.1.1, ⟨hk.1.2.1, ⟨hk.1.2.2, hk.2⟩⟩⟩)), (vl HO300.out), (bk BK289.out), (bk BK290.out), (bk BK301.out), GW301.out, GE301.out, NB289_301.out, NB301_289.out, NB290_301.out, NB301_290.out, (bl HB.out)⟩)
         ·skip
          refine box_step ?hg (N := 6) ?hd (cs := #[.bool false, .slice none 0 0, .slice none 0 0]) (t := 64) ?hr ?_; (case hd => rfl); (case hg => rfl); (case hr => first | (go_simp; done) | (go_simp; rfl))
          intro gb301 hg w50 hbox hb
          have n0_ := Aside0.mk (blk_below (bk BK289.out) hb)
          have n1_ := Aside0.mk (blk_below (bk BK290.out) hb)
          have n2_ := Aside0.mk (below_step (bl HB.out) hb)
          have n3_ := Aside0.mk (hbox)
          have n4_ := Aside0.mk (szg hg (bl HB.out))
          have n5_ := Aside0.mk (szg hg (bl HB.out))
          have n6_ := Aside0.mk (ntl hg (bk BK289.out))
          have n7_ := Aside0.mk (ntg hg (bk BK289.out))
          have n8_ := Aside0.mk (ntl hg (bk BK290.out))
          have n9_ := Aside0.mk (ntg hg (bk BK290.out))
          clear BK289
          clear BK290
          clear HB
          have BK289 := n0_
          have BK290 := n1_
          have HB := n2_
          have BK301 := n3_
          have GW301 := n4_
          have GE301 := n5_
          have NB289_301 := n6_
          have NB301_289 := n7_
          have NB290_301 := n8_
          have NB301_290 := n9_
          clear n0_ n1_ n2_ n3_ n4_ n5_ n6_ n7_ n8_ n9_
          clear hb hbox hg
          refine hK.out _ _ ⟨(blk_cell BK289.out 0).trans rfl, (blk_cell BK289.out 1).trans rfl⟩ (fun hHeld => ?_)
          clear hK K
          refine norm_ (a' := ?_) ?_ ?_
          rotate_left
          ·show Act.put _ (some 6) _ = _
           simp only [Act.put, List.setIfInBounds_toArray, List.set_cons_zero, List.set_cons_succ, i64_w, i32_w]
           rfl
          refine one_ (i := 2) (N := some 47) #[true, true, true, true, true, false, false, true, false] rfl rfl (one_of HT_.out (by kernel_rfl)) (by decide) (fun K hK => ?_)
          refine goes_ Tryz.func58 (by kernel_rfl) rfl #[.string t291] (by rfl) rfl rfl (by (try simp only [List.map_toArray, List.map_cons, List.map_nil]); first | done | rfl | (simp only [List.length_drop, List.length_take]; rfl)) ?_
          with_reducible refine (exact_parse.calls kj36 t291 t295 _ ?side1 A44.out).mono ?_
          (case side1 => first | exact hGl | exact gl_below hGl (bl HB.out))
          rintro e w51 ⟨v296, rfl, ho0, hb⟩
          refine ⟨_, rfl, ?_⟩
          have n0_ := Aside0.mk (Kd.V_lower (Kd.V_mono (ok' := fun k_ => (w.heap.size ≤ k_) ∧ k_ ≠ gb289 ∧ k_ ≠ gb290 ∧ k_ ≠ gb301) ho0 (fun k_ hk_ => ⟨(Nat.le_trans (below_size (bl HB.out)) hk_), (Kd.freshB (bk BK289.out) k_ hk_), (Kd.freshB (bk BK290.out) k_ hk_), (Kd.freshB (bk BK301.out) k_ hk_)⟩)) (below_size (bl HB.out)))
          have n1_ := Aside0.mk (blk_below (bk BK289.out) hb)
          have n2_ := Aside0.mk (blk_below (bk BK290.out) hb)
          have n3_ := Aside0.mk (blk_below (bk BK301.out) hb)
          have n4_ := Aside0.mk (below_step (bl HB.out) hb)
          clear BK289
          clear BK290
          clear BK301
          clear HB
          have HO297 := n0_
          have BK289 := n1_
          have BK290 := n2_
          have BK301 := n3_
          have HB := n4_
          clear n0_ n1_ n2_ n3_ n4_
          (try clear hb)
          (try clear hb2)
          (try clear hk)
          (try clear hi)
          (try clear ho0)
          refine hK.out _ _ ⟨(blk_cell BK289.out 0).trans rfl, (blk_cell BK289.out 1).trans rfl⟩ (fun hHeld => ?_)
          clear hK K
          refine norm_ (a' := ?_) ?_ ?_
          rotate_left
          ·show Act.put _ (some 47) _ = _
           simp only [Act.put, List.setIfInBounds_toArray, List.set_cons_zero, List.set_cons_succ, i64_w, i32_w]
           rfl
          refine one_ (i := 5) (N := some 50) #[true, true, true, true, true, true, false, true, false] rfl rfl (one_of HT_.out (by kernel_rfl)) (by decide) (fun K hK => ?_)
          refine goes_ Tryz.func58 (by kernel_rfl) rfl #[.string a0_1] (by rfl) rfl rfl (by (try simp only [List.map_toArray, List.map_cons, List.map_nil]); first | done | rfl | (simp only [List.length_drop, List.length_take]; rfl)) ?_
          with_reducible refine (exact_parse.calls kj36 a0_1 t298 _ ?side1 A45.out).mono ?_
          (case side1 => first | exact hGl | exact gl_below hGl (bl HB.out))
          rintro e w52 ⟨v299, rfl, ho0, hb⟩
          refine ⟨_, rfl, ?_⟩
          have n0_ := Aside0.mk (Kd.V_below (vl HO297.out) hb)
          have n1_ := Aside0.mk (Kd.V_lower (Kd.V_mono (ok' := fun k_ => (w.heap.size ≤ k_) ∧ k_ ≠ gb289 ∧ k_ ≠ gb290 ∧ k_ ≠ gb301) ho0 (fun k_ hk_ => ⟨(Nat.le_trans (below_size (bl HB.out)) hk_), (Kd.freshB (bk BK289.out) k_ hk_), (Kd.freshB (bk BK290.out) k_ hk_), (Kd.freshB (bk BK301.out) k_ hk_)⟩)) (below_size (bl HB.out)))
          have n2_ := Aside0.mk (blk_below (bk BK289.out) hb)
          have n3_ := Aside0.mk (blk_below (bk BK290.out) hb)
          have n4_ := Aside0.mk (blk_below (bk BK301.out) hb)
          have n5_ := Aside0.mk (below_step (bl HB.out) hb)
          clear HO297
          clear BK289
          clear BK290
          clear BK301
          clear HB
          have HO297 := n0_
          have HO300 := n1_
          have BK289 := n2_
          have BK290 := n3_
          have BK301 := n4_
          have HB := n5_
          clear n0_ n1_ n2_ n3_ n4_ n5_
          (try clear hb)
          (try clear hb2)
          (try clear hk)
          (try clear hi)
          (try clear ho0)
          obtain ⟨Ao53, co53, eo53⟩ := Kd.V_slice HO300.out
          (first | subst eo53 | (injection eo53 with f1_ f2_ f3_; have f4_ := f1_.symm; have f5_ := f3_.symm; clear f1_ f2_ f3_; subst f4_; subst f5_))
          obtain ⟨Ao54, co54, eo54⟩ := Kd.V_slice HO297.out
          (first | subst eo54 | (injection eo54 with f1_ f2_ f3_; have f4_ := f1_.symm; have f5_ := f3_.symm; clear f1_ f2_ f3_; subst f4_; subst f5_))
          refine hK.out _ _ ⟨(blk_cell BK289.out 0).trans rfl, (blk_cell BK289.out 1).trans rfl⟩ (fun hHeld => ?_)
          clear hK K
          refine norm_ (a' := ?_) ?_ ?_
          rotate_left
          ·show Act.put _ (some 50) _ = _
           simp only [Act.put, List.setIfInBounds_toArray, List.set_cons_zero, List.set_cons_succ, i64_w, i32_w]
           rfl
          refine pure_ (i := 6) (N := some 51) (v := ?_) (a' := ?_) #[true, true, true, true, true, true, true, true, false] rfl rfl (any_of HT_.out (by kernel_rfl)) (fun _ _ _ h => h) (Or.inl ⟨by rfl, ?_⟩) ?_ ?_
          rotate_left
          ·intro w'
           go_simp
           with_reducible rfl
          rotate_left
          ·simp only [Act.put, List.setIfInBounds_toArray, List.set_cons_zero, List.set_cons_succ, i64_w, i32_w]
           rfl
          exact norm_ (by simp only [putAll, Act.put, List.setIfInBounds_toArray, List.set_cons_zero, List.set_cons_succ]) (hCont (.slice Ao54 t295.length co54, .slice Ao53 t298.length co53, gb301) _ ⟨hHeld, (vl HO297.out), (vl HO300.out), (bk BK289.out), (bk BK290.out), (bk BK301.out), GW301.out, GE301.out, NB289_301.out, NB301_289.out, NB290_301.out, NB301_290.out, (bl HB.out)⟩)
        rintro ⟨v296, v299, gb301⟩ w55 ⟨hS_, h0_, h1_, h2_, h3_, h4_, h5_, h6_, h7_, h8_, h9_, h10_, h11_⟩
        have n0_ : Aside0 (Kd.V (Kd.int .u32) 69 w55 w.heap.size (fun k_ => (w.heap.size ≤ k_) ∧ k_ ≠ gb289 ∧ k_ ≠ gb290 ∧ k_ ≠ gb301) v296 t295) := ⟨h0_⟩
        have n1_ : Aside0 (Kd.V (Kd.int .u32) 69 w55 w.heap.size (fun k_ => (w.heap.size ≤ k_) ∧ k_ ≠ gb289 ∧ k_ ≠ gb290 ∧ k_ ≠ gb301) v299 t298) := ⟨h1_⟩
        have n2_ : Aside0 (w55.heap[gb289]? = some (.cells #[.string a0_0, .string a0_1] 30 (0, 0))) := ⟨h2_⟩
        have n3_ : Aside0 (w55.heap[gb290]? = some (.cells #[.bool false, .slice none 0 0, .slice none 0 0] 64 (0, 0))) := ⟨h3_⟩
        have n4_ : Aside0 (w55.heap[gb301]? = some (.cells #[.bool false, .slice none 0 0, .slice none 0 0] 64 (0, 0))) := ⟨h4_⟩
        have n5_ : Aside0 (w.heap.size ≤ gb301) := ⟨h5_⟩
        have n6_ : Aside0 (w.heap.size ≤ gb301) := ⟨h6_⟩
        have n7_ : Aside0 (gb289 ≠ gb301) := ⟨h7_⟩
        have n8_ : Aside0 (gb301 ≠ gb289) := ⟨h8_⟩
        have n9_ : Aside0 (gb290 ≠ gb301) := ⟨h9_⟩
        have n10_ : Aside0 (gb301 ≠ gb290) := ⟨h10_⟩
        have n11_ : Aside0 (Below w.heap.size w w55) := ⟨h11_⟩
        clear BK289
        clear BK290
        clear HB
        clear h0_ h1_ h2_ h3_ h4_ h5_ h6_ h7_ h8_ h9_ h10_ h11_
        have HO297 := n0_
        have HO300 := n1_
        have BK289 := n2_
        have BK290 := n3_
        have BK301 := n4_
        have GW301 := n5_
        have GE301 := n6_
        have NB289_301 := n7_
        have NB301_289 := n8_
        have NB290_301 := n9_
        have NB301_290 := n10_
        have HB := n11_
        clear n0_ n1_ n2_ n3_ n4_ n5_ n6_ n7_ n8_ n9_ n10_ n11_
        have hHeld : w55.cell? ⟨gb289, 0, none⟩ = some (.string a0_0) ∧ w55.cell? ⟨gb289, 1, none⟩ = some (.string a0_1) := hS_
        obtain ⟨Ao56, co56, eo56⟩ := Kd.V_slice HO300.out
        (first | subst eo56 | (injection eo56 with f1_ f2_ f3_; have f4_ := f1_.symm; have f5_ := f3_.symm; clear f1_ f2_ f3_; subst f4_; subst f5_))
        obtain ⟨Ao57, co57, eo57⟩ := Kd.V_slice HO297.out
        (first | subst eo57 | (injection eo57 with f1_ f2_ f3_; have f4_ := f1_.symm; have f5_ := f3_.symm; clear f1_ f2_ f3_; subst f4_; subst f5_))
        refine norm_ (a' := ?_) ?_ ?_
        rotate_left
        ·simp only [putAll, Act.put, List.setIfInBounds_toArray, List.set_cons_zero, List.set_cons_succ]
         rfl
        refine one_ (i := 8) (N := none) #[true, true, true, true, true, true, true, true, true] rfl rfl (one_of HT_.out (by kernel_rfl)) (by decide) (fun K hK => ?_)
        have hs58 : w55.cell? ⟨gb301, 0, none⟩ = some (.bool false) := (blk_cell BK301.out 0).trans rfl
        have hfs58 := blk_frozen BK301.out 0
        have hns58_0 := NB289_301.out
        have hns58_1 := NB290_301.out
        have hms58_0 := NB301_289.out
        have hms58_1 := NB301_290.out
        have hs59 : w55.cell? ⟨gb301, 1, none⟩ = some (.slice none 0 0) := (blk_cell BK301.out 1).trans rfl
        have hfs59 := blk_frozen BK301.out 1
        have hns59_0 := NB289_301.out
        have hns59_1 := NB290_301.out
        have hms59_0 := NB301_289.out
        have hms59_1 := NB301_290.out
        have hs60 : w55.cell? ⟨gb301, 2, none⟩ = some (.slice none 0 0) := (blk_cell BK301.out 2).trans rfl
        have hfs60 := blk_frozen BK301.out 2
        have hns60_0 := NB289_301.out
        have hns60_1 := NB290_301.out
        have hms60_0 := NB301_289.out
        have hms60_1 := NB301_290.out
        refine skip_ (w1 := ?_) (by rfl) rfl ?_ ?_
        rotate_left
        ·go_simp
         rfl
        refine hK.out _ _ ⟨((cell_far (p := ⟨gb301, _, none⟩) NB289_301.out _).trans (((cell_far (p := ⟨gb301, _, none⟩) NB289_301.out _).trans (((cell_far (p := ⟨gb301, _, none⟩) NB289_301.out _).trans (hHeld.1)))))), ((cell_far (p := ⟨gb301, _, none⟩) NB289_301.out _).trans (((cell_far (p := ⟨gb301, _, none⟩) NB289_301.out _).trans (((cell_far (p := ⟨gb301, _, none⟩) NB289_301.out _).trans (hHeld.2))))))⟩ (fun hHeld => ?_)
        clear hK K
        refine done_ (done_of HT_.out (by kernel_rfl)) ?_
        have n0_ : Aside0 (Kd.V (Kd.int .u32) 69 (((w55.setCell ⟨gb301, 0, none⟩ (.bool t292)).setCell ⟨gb301, 1, none⟩ (.slice Ao57 t295.length co57)).setCell ⟨gb301, 2, none⟩ (.slice Ao56 t298.length co56)) w.heap.size (fun k_ => (w.heap.size ≤ k_) ∧ k_ ≠ gb289 ∧ k_ ≠ gb290 ∧ k_ ≠ gb301) (.slice Ao57 t295.length co57) t295) := ⟨by (with_reducible repeat (first | apply Kd.V_alloc | apply Kd.V_drewN | apply Kd.V_drew)); exact Kd.V_mono (Kd.V_far (p := ⟨gb301, 2, none⟩) (Kd.V_far (p := ⟨gb301, 1, none⟩) (Kd.V_far (p := ⟨gb301, 0, none⟩) (Kd.V_mono HO297.out (fun k_ hk => (⟨hk, hk.2.2.2⟩ : _ ∧ k_ ≠ gb301))) (fun _ hk => hk.2) (.bool t292)) (fun _ hk => hk.2) (.slice Ao57 t295.length co57)) (fun _ hk => hk.2) (.slice Ao56 t298.length co56)) (fun _ hk => ⟨hk.1.1, ⟨hk.1.2.1, ⟨hk.1.2.2.1, hk.1.2.2.2⟩⟩⟩)⟩
        have n1_ : Aside0 (Kd.V (Kd.int .u32) 69 (((w55.setCell ⟨gb301, 0, none⟩ (.bool t292)).setCell ⟨gb301, 1, none⟩ (.slice Ao57 t295.length co57)).setCell ⟨gb301, 2, none⟩ (.slice Ao56 t298.length co56)) w.heap.size (fun k_ => (w.heap.size ≤ k_) ∧ k_ ≠ gb289 ∧ k_ ≠ gb290 ∧ k_ ≠ gb301) (.slice Ao56 t298.length co56) t298) := ⟨by (with_reducible repeat (first | apply Kd.V_alloc | apply Kd.V_drewN | apply Kd.V_drew)); exact Kd.V_mono (Kd.V_far (p := ⟨gb301, 2, none⟩) (Kd.V_far (p := ⟨gb301, 1, none⟩) (Kd.V_far (p := ⟨gb301, 0, none⟩) (Kd.V_mono HO300.out (fun k_ hk => (⟨hk, hk.2.2.2⟩ : _ ∧ k_ ≠ gb301))) (fun _ hk => hk.2) (.bool t292)) (fun _ hk => hk.2) (.slice Ao57 t295.length co57)) (fun _ hk => hk.2) (.slice Ao56 t298.length co56)) (fun _ hk => ⟨hk.1.1, ⟨hk.1.2.1, ⟨hk.1.2.2.1, hk.1.2.2.2⟩⟩⟩)⟩
        have n2_ : Aside0 ((((w55.setCell ⟨gb301, 0, none⟩ (.bool t292)).setCell ⟨gb301, 1, none⟩ (.slice Ao57 t295.length co57)).setCell ⟨gb301, 2, none⟩ (.slice Ao56 t298.length co56)).heap[gb289]? = some (.cells #[.string a0_0, .string a0_1] 30 (0, 0))) := ⟨bf BK289.out⟩
        have n3_ : Aside0 ((((w55.setCell ⟨gb301, 0, none⟩ (.bool t292)).setCell ⟨gb301, 1, none⟩ (.slice Ao57 t295.length co57)).setCell ⟨gb301, 2, none⟩ (.slice Ao56 t298.length co56)).heap[gb290]? = some (.cells #[.bool false, .slice none 0 0, .slice none 0 0] 64 (0, 0))) := ⟨bf BK290.out⟩
        have n4_ : Aside0 ((((w55.setCell ⟨gb301, 0, none⟩ (.bool t292)).setCell ⟨gb301, 1, none⟩ (.slice Ao57 t295.length co57)).setCell ⟨gb301, 2, none⟩ (.slice Ao56 t298.length co56)).heap[gb301]? = some (.cells #[.bool t292, .slice Ao57 t295.length co57, .slice Ao56 t298.length co56] 64 (0, 0))) := ⟨by (with_reducible repeat (first | refine blk_drewN ?_ _ | refine blk_drew ?_ | refine blk_alloc ?_ _)); refine blk_put (cs := #[.bool t292, .slice Ao57 t295.length co57, .slice none 0 0]) ?_ 2 _ rfl; (with_reducible repeat (first | refine blk_drewN ?_ _ | refine blk_drew ?_ | refine blk_alloc ?_ _)); refine blk_put (cs := #[.bool t292, .slice none 0 0, .slice none 0 0]) ?_ 1 _ rfl; (with_reducible repeat (first | refine blk_drewN ?_ _ | refine blk_drew ?_ | refine blk_alloc ?_ _)); refine blk_put (cs := #[.bool false, .slice none 0 0, .slice none 0 0]) ?_ 0 _ rfl; (with_reducible repeat (first | refine blk_drewN ?_ _ | refine blk_drew ?_ | refine blk_alloc ?_ _)); exact BK301.out⟩
        have n5_ : Aside0 (Below w.heap.size w (((w55.setCell ⟨gb301, 0, none⟩ (.bool t292)).setCell ⟨gb301, 1, none⟩ (.slice Ao57 t295.length co57)).setCell ⟨gb301, 2, none⟩ (.slice Ao56 t298.length co56))) := ⟨bl HB.out⟩
        (try clear HO297)
        (try clear HO300)
        (try clear BK289)
        (try clear BK290)
        (try clear BK301)
        (try clear HB)
        generalize (((w55.setCell ⟨gb301, 0, none⟩ (.bool t292)).setCell ⟨gb301, 1, none⟩ (.slice Ao57 t295.length co57)).setCell ⟨gb301, 2, none⟩ (.slice Ao56 t298.length co56)) = w61 at n0_ n1_ n2_ n3_ n4_ n5_ ⊢
        have HO297 := n0_
        have HO300 := n1_
        have BK289 := n2_
        have BK290 := n3_
        have BK301 := n4_
        have HB := n5_
        clear n0_ n1_ n2_ n3_ n4_ n5_
        have hnb62 := NB301_289.out
        have hnc62 := NB289_301.out
        have hnb63 := NB301_290.out
        have hnc63 := NB290_301.out
        have hcz64_0 : w61.cell? ⟨gb301, 0, none⟩ = some (.bool t292) := (blk_cell BK301.out 0).trans rfl
        have hcz64_1 : w61.cell? ⟨gb301, 1, none⟩ = some (.slice Ao57 t295.length co57) := (blk_cell BK301.out 1).trans rfl
        have hcz64_2 : w61.cell? ⟨gb301, 2, none⟩ = some (.slice Ao56 t298.length co56) := (blk_cell BK301.out 2).trans rfl
        have hfz64_0 := blk_frozen BK301.out 0
        have hfz64_1 := blk_frozen BK301.out 1
        have hfz64_2 := blk_frozen BK301.out 2
        try go_wp2_with (first | ((with_reducible refine gate_callee (f := 35) rfl ?_); refine goesL_ (some 56) rfl rfl Tryz.func35 (by kernel_rfl) rfl #[.slice Ao57 t295.length co57, .slice Ao56 t298.length co56] rfl (by (try simp only [List.map_toArray, List.map_cons, List.map_nil]); first | done | rfl | (simp only [List.length_drop, List.length_take]; rfl)) ?_; (with_reducible refine (exact_common.calls kj36 (fun k_ => ((w.heap.size ≤ k_) ∧ (k_ ≠ gb289 ∧ (k_ ≠ gb290 ∧ k_ ≠ gb301)))) _ _ t295 (fun k_ => ((w.heap.size ≤ k_) ∧ (k_ ≠ gb289 ∧ (k_ ≠ gb290 ∧ k_ ≠ gb301)))) _ _ t298 t302 _ ?side1 ?side2 ?side3 A46.out).mono ?_); (case side1 => exact HO297.out); (case side2 => exact HO300.out); (case side3 => first | exact hGl | exact gl_below hGl (bl HB.out)); rintro e w65 ⟨v303, rfl, ho0, hb⟩; refine ⟨_, rfl, ?_⟩; have n0_ := Aside0.mk (Kd.V_below (vl HO297.out) hb); have n1_ := Aside0.mk (Kd.V_below (vl HO300.out) hb); have n2_ := Aside0.mk (Kd.V_lower (Kd.V_mono (ok' := fun k_ => (w.heap.size ≤ k_) ∧ k_ ≠ gb289 ∧ k_ ≠ gb290 ∧ k_ ≠ gb301) ho0 (fun k_ hk_ => ⟨Or.elim hk_ (fun hs_ => Or.elim hs_ (fun hs_ => hs_.1) (fun hs_ => hs_.1)) (fun hn_ => (Nat.le_trans (below_size (bl HB.out)) hn_)), Or.elim hk_ (fun hs_ => Or.elim hs_ (fun hs_ => hs_.2.1) (fun hs_ => hs_.2.1)) (fun hn_ => (Kd.freshB (bk BK289.out) k_ hn_)), Or.elim hk_ (fun hs_ => Or.elim hs_ (fun hs_ => hs_.2.2.1) (fun hs_ => hs_.2.2.1)) (fun hn_ => (Kd.freshB (bk BK290.out) k_ hn_)), Or.elim hk_ (fun hs_ => Or.elim hs_ (fun hs_ => hs_.2.2.2) (fun hs_ => hs_.2.2.2)) (fun hn_ => (Kd.freshB (bk BK301.out) k_ hn_))⟩)) (below_size (bl HB.out))); have n3_ := Aside0.mk (blk_below (bk BK289.out) hb); have n4_ := Aside0.mk (blk_below (bk BK290.out) hb); have n5_ := Aside0.mk (blk_below (bk BK301.out) hb); have n6_ := Aside0.mk (below_step (bl HB.out) hb); clear HO297; clear HO300; clear BK289; clear BK290; clear BK301; clear HB; have HO297 := n0_; have HO300 := n1_; have HO304 := n2_; have BK289 := n3_; have BK290 := n4_; have BK301 := n5_; have HB := n6_; clear n0_ n1_ n2_ n3_ n4_ n5_ n6_; (try clear hb); (try clear hb2); (try clear hk); (try clear hi); (try clear ho0); obtain ⟨Ao66, co66, eo66⟩ := Kd.V_slice HO304.out; subst eo66) | ((with_reducible refine gate_callee (f := 32) rfl ?_); refine goesL_ (some 57) rfl rfl Tryz.func32 (by kernel_rfl) rfl #[.slice Ao66 t302.length co66] rfl (by (try simp only [List.map_toArray, List.map_cons, List.map_nil]); first | done | rfl | (simp only [List.length_drop, List.length_take]; rfl)) ?_; (with_reducible refine (exact_nat_one.calls _ _ t302 true _ ?side1 ?side2 ?side3 A47.out).mono ?_); (case side1 => repeat (first | exact (Kd.V_reads' HO304.out).2.2 | (with_reducible refine Kd.C_alloc ?_ _) | (with_reducible refine Kd.C_drewN ?_ _) | (with_reducible refine Kd.C_drew ?_))); (case side2 => exact (Kd.V_reads' HO304.out).2.1); (case side3 => first | exact hGl | exact gl_below hGl (bl HB.out)); rintro e w' ⟨rfl, ⟨nd, rfl⟩⟩; refine ⟨_, rfl, ?_⟩; (try (rw [drewN_self w65]; generalize hq_ : World.drewN w65 _ = w65; have n0_ : Aside0 (Kd.V (Kd.int .u32) 69 w65 w.heap.size (fun k_ => (w.heap.size ≤ k_) ∧ k_ ≠ gb289 ∧ k_ ≠ gb290 ∧ k_ ≠ gb301) (.slice Ao57 t295.length co57) t295) := ⟨by rw [← hq_]; exact (vl HO297.out)⟩; have n1_ : Aside0 (Kd.V (Kd.int .u32) 69 w65 w.heap.size (fun k_ => (w.heap.size ≤ k_) ∧ k_ ≠ gb289 ∧ k_ ≠ gb290 ∧ k_ ≠ gb301) (.slice Ao56 t298.length co56) t298) := ⟨by rw [← hq_]; exact (vl HO300.out)⟩; have n2_ : Aside0 (Kd.V (Kd.int .u32) 69 w65 w.heap.size (fun k_ => (w.heap.size ≤ k_) ∧ k_ ≠ gb289 ∧ k_ ≠ gb290 ∧ k_ ≠ gb301) (.slice Ao66 t302.length co66) t302) := ⟨by rw [← hq_]; exact (vl HO304.out)⟩; have n3_ : Aside0 (w65.heap[gb289]? = some (.cells #[.string a0_0, .string a0_1] 30 (0, 0))) := ⟨by rw [← hq_]; exact (bk BK289.out)⟩; have n4_ : Aside0 (w65.heap[gb290]? = some (.cells #[.bool false, .slice none 0 0, .slice none 0 0] 64 (0, 0))) := ⟨by rw [← hq_]; exact (bk BK290.out)⟩; have n5_ : Aside0 (w65.heap[gb301]? = some (.cells #[.bool t292, .slice Ao57 t295.length co57, .slice Ao56 t298.length co56] 64 (0, 0))) := ⟨by rw [← hq_]; exact (bk BK301.out)⟩; have n6_ : Aside0 (Below w.heap.size w w65) := ⟨by rw [← hq_]; exact (bl HB.out)⟩; clear HO297 HO300 HO304 BK289 BK290 BK301 HB hq_; have HO297 := n0_; have HO300 := n1_; have HO304 := n2_; have BK289 := n3_; have BK290 := n4_; have BK301 := n5_; have HB := n6_; clear n0_ n1_ n2_ n3_ n4_ n5_ n6_)); have hcz67_0 : w65.cell? ⟨gb301, 0, none⟩ = some (.bool t292) := (blk_cell BK301.out 0).trans rfl; have hcz67_1 : w65.cell? ⟨gb301, 1, none⟩ = some (.slice Ao57 t295.length co57) := (blk_cell BK301.out 1).trans rfl; have hcz67_2 : w65.cell? ⟨gb301, 2, none⟩ = some (.slice Ao56 t298.length co56) := (blk_cell BK301.out 2).trans rfl; have hfz67_0 := blk_frozen BK301.out 0; have hfz67_1 := blk_frozen BK301.out 1; have hfz67_2 := blk_frozen BK301.out 2; have hnb68 := NB290_289.out; have hnc68 := NB289_290.out; have hcz69_0 : w65.cell? ⟨gb290, 0, none⟩ = some (.bool false) := (blk_cell BK290.out 0).trans rfl; have hcz69_1 : w65.cell? ⟨gb290, 1, none⟩ = some (.slice none 0 0) := (blk_cell BK290.out 1).trans rfl; have hcz69_2 : w65.cell? ⟨gb290, 2, none⟩ = some (.slice none 0 0) := (blk_cell BK290.out 2).trans rfl; have hfz69_0 := blk_frozen BK290.out 0; have hfz69_1 := blk_frozen BK290.out 1; have hfz69_2 := blk_frozen BK290.out 2))
        refine bodyPost_ret (results_ct rfl _ _ gb290 64 #[.bool t292, .slice Ao57 t295.length co57, .slice Ao56 t298.length co56] (0, 0) _ rfl (by (with_reducible repeat (first | refine blk_drewN ?_ _ | refine blk_drew ?_ | refine blk_alloc ?_ _)); refine blk_put (cs := #[.bool t292, .slice Ao57 t295.length co57, .slice none 0 0]) ?_ 2 _ rfl; (with_reducible repeat (first | refine blk_drewN ?_ _ | refine blk_drew ?_ | refine blk_alloc ?_ _)); refine blk_put (cs := #[.bool t292, .slice none 0 0, .slice none 0 0]) ?_ 1 _ rfl; (with_reducible repeat (first | refine blk_drewN ?_ _ | refine blk_drew ?_ | refine blk_alloc ?_ _)); refine blk_put (cs := #[.bool false, .slice none 0 0, .slice none 0 0]) ?_ 0 _ rfl; (with_reducible repeat (first | refine blk_drewN ?_ _ | refine blk_drew ?_ | refine blk_alloc ?_ _)); exact BK290.out) Tryz.underlying64 rfl (by kernel_rfl)) rfl ?_
        exact ⟨_, _, by first | rfl | (simp [errW_none, errW_some] <;> rfl) | (simp [*, errW_none, errW_some] <;> rfl), by (with_reducible repeat (first | apply Kd.V_alloc | apply Kd.V_drewN | apply Kd.V_drew)); exact Kd.V_mono (Kd.V_far (p := ⟨gb290, 2, none⟩) (Kd.V_far (p := ⟨gb290, 1, none⟩) (Kd.V_far (p := ⟨gb290, 0, none⟩) (Kd.V_mono HO297.out (fun k_ hk => (⟨hk, hk.2.2.1⟩ : _ ∧ k_ ≠ gb290))) (fun _ hk => hk.2) (.bool t292)) (fun _ hk => hk.2) (.slice Ao57 t295.length co57)) (fun _ hk => hk.2) (.slice Ao56 t298.length co56)) (fun _ hk => hk.1.1), by (with_reducible repeat (first | apply Kd.V_alloc | apply Kd.V_drewN | apply Kd.V_drew)); exact Kd.V_mono (Kd.V_far (p := ⟨gb290, 2, none⟩) (Kd.V_far (p := ⟨gb290, 1, none⟩) (Kd.V_far (p := ⟨gb290, 0, none⟩) (Kd.V_mono HO300.out (fun k_ hk => (⟨hk, hk.2.2.1⟩ : _ ∧ k_ ≠ gb290))) (fun _ hk => hk.2) (.bool t292)) (fun _ hk => hk.2) (.slice Ao57 t295.length co57)) (fun _ hk => hk.2) (.slice Ao56 t298.length co56)) (fun _ hk => hk.1.1), bl HB.out⟩
       ·replace c48 := Bool.eq_false_iff.mpr c48
        subst c48
        have H1 : (some (false, ([] : List Int), ([] : List Int), 4)) = some (r1, r2, r3, r4) := by rw [if_neg (show ¬ (false = true) by decide)] at H; exact H
        clear H
        have H := H1
        clear H1
        simp only [Option.some.injEq, Prod.mk.injEq] at H
        obtain ⟨rfl, rfl, rfl, rfl⟩ := H
        try go_wp2
        have n0_ := Aside0.mk (blk_drew BK289.out)
        have n1_ := Aside0.mk (blk_drew BK290.out)
        have n2_ := Aside0.mk (below_drew1 HB.out)
        clear BK289
        clear BK290
        clear HB
        have BK289 := n0_
        have BK290 := n1_
        have HB := n2_
        clear n0_ n1_ n2_
        refine start_ (n := 9) (S := fun w' => w'.cell? ⟨gb289, 0, none⟩ = some (.string a0_0) ∧ w'.cell? ⟨gb289, 1, none⟩ = some (.string a0_1)) (ds := []) #[false, false, false, false, false, false, false, false, false] (by kernel_rfl) rfl rfl ⟨(blk_cell BK289.out 0).trans rfl, (blk_cell BK289.out 1).trans rfl⟩ (fun hHeld => ?_); refine with_tabW exact_read.tab6 exact_read.bits6 (fun HT_ HW_ => ?_)
        generalize wc.drew = w70 at BK289 BK290 HB hHeld ⊢
        refine pure_ (i := 0) (N := some 45) (v := ?_) (a' := ?_) #[true, false, false, false, false, false, false, false, false] rfl rfl (any_of HT_.out (by kernel_rfl)) (fun _ _ _ h => h) (Or.inl ⟨by rfl, ?_⟩) ?_ ?_
        rotate_left
        ·intro w'
         go_simp
         with_reducible rfl
        rotate_left
        ·simp only [Act.put, List.setIfInBounds_toArray, List.set_cons_zero, List.set_cons_succ, i64_w, i32_w]
         rfl
        refine pure_ (i := 1) (N := some 46) (v := ?_) (a' := ?_) #[true, true, false, false, false, false, false, false, false] rfl rfl (any_of HT_.out (by kernel_rfl)) (fun _ _ _ h => h) (Or.inl ⟨by rfl, ?_⟩) ?_ ?_
        rotate_left
        ·intro w'
         go_simp
         with_reducible rfl
        rotate_left
        ·simp only [Act.put, List.setIfInBounds_toArray, List.set_cons_zero, List.set_cons_succ, i64_w, i32_w]
         rfl
        refine pure_ (i := 3) (N := some 48) (v := ?_) (a' := ?_) #[true, true, false, true, false, false, false, false, false] rfl rfl (any_of HT_.out (by kernel_rfl)) (fun _ _ _ h => h) (Or.inl ⟨by rfl, ?_⟩) ?_ ?_
        rotate_left
        ·intro w'
         go_simp
         with_reducible rfl
        rotate_left
        ·simp only [Act.put, List.setIfInBounds_toArray, List.set_cons_zero, List.set_cons_succ, i64_w, i32_w]
         rfl
        refine take_ (i := 4) (N := some 49) (v := ?_) (a' := ?_) #[true, true, false, true, true, false, false, false, false] rfl rfl (take_ofW HT_.out HW_.out (by kernel_rfl)) (fun _ _ _ h => h) (Or.inl ⟨by rfl, ?_⟩) hHeld ?_ ?_
        rotate_left
        ·rintro w' ⟨s0, s1⟩
         go_simp
         with_reducible rfl
        rotate_left
        ·simp only [Act.put, List.setIfInBounds_toArray, List.set_cons_zero, List.set_cons_succ, i64_w, i32_w]
         rfl
        refine join_ (σ := Value × Value × Nat) 1 #[true, true, true, true, true, true, true, true, false] (fun s_ => [(47, s_.1), (50, s_.2.1), (6, .pointer (some ⟨s_.2.2, 0, none⟩)), (51, .agg #[.bool t292, s_.1, s_.2.1])]) (fun s_ w' => (w'.cell? ⟨gb289, 0, none⟩ = some (.string a0_0) ∧ w'.cell? ⟨gb289, 1, none⟩ = some (.string a0_1)) ∧ (Kd.V (Kd.int .u32) 69 w' w.heap.size (fun k_ => (w.heap.size ≤ k_) ∧ k_ ≠ gb289 ∧ k_ ≠ gb290 ∧ k_ ≠ s_.2.2) s_.1 t295) ∧ (Kd.V (Kd.int .u32) 69 w' w.heap.size (fun k_ => (w.heap.size ≤ k_) ∧ k_ ≠ gb289 ∧ k_ ≠ gb290 ∧ k_ ≠ s_.2.2) s_.2.1 t298) ∧ (w'.heap[gb289]? = some (.cells #[.string a0_0, .string a0_1] 30 (0, 0))) ∧ (w'.heap[gb290]? = some (.cells #[.bool false, .slice none 0 0, .slice none 0 0] 64 (0, 0))) ∧ (w'.heap[s_.2.2]? = some (.cells #[.bool false, .slice none 0 0, .slice none 0 0] 64 (0, 0))) ∧ (w.heap.size ≤ s_.2.2) ∧ (w.heap.size ≤ s_.2.2) ∧ (gb289 ≠ s_.2.2) ∧ (s_.2.2 ≠ gb289) ∧ (gb290 ≠ s_.2.2) ∧ (s_.2.2 ≠ gb290) ∧ (Below w.heap.size w w')) ?_ ?_
        rotate_left
        ·intro hCont
         refine two_ (i := 2) (j := 7) (Ni := some 47) (Nj := some 6) #[true, true, true, true, true, false, false, false, false] #[true, true, false, true, true, false, false, true, false] rfl rfl rfl rfl (two_of HT_.out (by kernel_rfl)) (by decide) (by decide) (fun K hK => ?_) (fun K hK => ?_)
         ·skip
          refine goes_ Tryz.func58 (by kernel_rfl) rfl #[.string t291] (by rfl) rfl rfl (by (try simp only [List.map_toArray, List.map_cons, List.map_nil]); first | done | rfl | (simp only [List.length_drop, List.length_take]; rfl)) ?_
          with_reducible refine (exact_parse.calls kj36 t291 t295 _ ?side1 A44.out).mono ?_
          (case side1 => first | exact hGl | exact gl_below hGl (bl HB.out))
          rintro e w71 ⟨v296, rfl, ho0, hb⟩
          refine ⟨_, rfl, ?_⟩
          have n0_ := Aside0.mk (Kd.V_lower (Kd.V_mono (ok' := fun k_ => (w.heap.size ≤ k_) ∧ k_ ≠ gb289 ∧ k_ ≠ gb290) ho0 (fun k_ hk_ => ⟨(Nat.le_trans (below_size (bl HB.out)) hk_), (Kd.freshB (bk BK289.out) k_ hk_), (Kd.freshB (bk BK290.out) k_ hk_)⟩)) (below_size (bl HB.out)))
          have n1_ := Aside0.mk (blk_below (bk BK289.out) hb)
          have n2_ := Aside0.mk (blk_below (bk BK290.out) hb)
          have n3_ := Aside0.mk (below_step (bl HB.out) hb)
          clear BK289
          clear BK290
          clear HB
          have HO297 := n0_
          have BK289 := n1_
          have BK290 := n2_
          have HB := n3_
          clear n0_ n1_ n2_ n3_
          (try clear hb)
          (try clear hb2)
          (try clear hk)
          (try clear hi)
          (try clear ho0)
          refine hK.out _ _ ⟨(blk_cell BK289.out 0).trans rfl, (blk_cell BK289.out 1).trans rfl⟩ (fun hHeld => ?_)
          clear hK K
          refine norm_ (a' := ?_) ?_ ?_
          rotate_left
          ·show Act.put _ (some 47) _ = _
           simp only [Act.put, List.setIfInBounds_toArray, List.set_cons_zero, List.set_cons_succ, i64_w, i32_w]
           rfl
          refine two_ (i := 5) (j := 7) (Ni := some 50) (Nj := some 6) #[true, true, true, true, true, true, false, false, false] #[true, true, true, true, true, false, false, true, false] rfl rfl rfl rfl (two_of HT_.out (by kernel_rfl)) (by decide) (by decide) (fun K hK => ?_) (fun K hK => ?_)
          ·skip
           refine goes_ Tryz.func58 (by kernel_rfl) rfl #[.string a0_1] (by rfl) rfl rfl (by (try simp only [List.map_toArray, List.map_cons, List.map_nil]); first | done | rfl | (simp only [List.length_drop, List.length_take]; rfl)) ?_
           with_reducible refine (exact_parse.calls kj36 a0_1 t298 _ ?side1 A45.out).mono ?_
           (case side1 => first | exact hGl | exact gl_below hGl (bl HB.out))
           rintro e w72 ⟨v299, rfl, ho0, hb⟩
           refine ⟨_, rfl, ?_⟩
           have n0_ := Aside0.mk (Kd.V_below (vl HO297.out) hb)
           have n1_ := Aside0.mk (Kd.V_lower (Kd.V_mono (ok' := fun k_ => (w.heap.size ≤ k_) ∧ k_ ≠ gb289 ∧ k_ ≠ gb290) ho0 (fun k_ hk_ => ⟨(Nat.le_trans (below_size (bl HB.out)) hk_), (Kd.freshB (bk BK289.out) k_ hk_), (Kd.freshB (bk BK290.out) k_ hk_)⟩)) (below_size (bl HB.out)))
           have n2_ := Aside0.mk (blk_below (bk BK289.out) hb)
           have n3_ := Aside0.mk (blk_below (bk BK290.out) hb)
           have n4_ := Aside0.mk (below_step (bl HB.out) hb)
           clear HO297
           clear BK289
           clear BK290
           clear HB
           have HO297 := n0_
           have HO300 := n1_
           have BK289 := n2_
           have BK290 := n3_
           have HB := n4_
           clear n0_ n1_ n2_ n3_ n4_
           (try clear hb)
           (try clear hb2)
           (try clear hk)
           (try clear hi)
           (try clear ho0)
           obtain ⟨Ao73, co73, eo73⟩ := Kd.V_slice HO300.out
           (first | subst eo73 | (injection eo73 with f1_ f2_ f3_; have f4_ := f1_.symm; have f5_ := f3_.symm; clear f1_ f2_ f3_; subst f4_; subst f5_))
           obtain ⟨Ao74, co74, eo74⟩ := Kd.V_slice HO297.out
           (first | subst eo74 | (injection eo74 with f1_ f2_ f3_; have f4_ := f1_.symm; have f5_ := f3_.symm; clear f1_ f2_ f3_; subst f4_; subst f5_))
           refine hK.out _ _ ⟨(blk_cell BK289.out 0).trans rfl, (blk_cell BK289.out 1).trans rfl⟩ (fun hHeld => ?_)
           clear hK K
           refine norm_ (a' := ?_) ?_ ?_
           rotate_left
           ·show Act.put _ (some 50) _ = _
            simp only [Act.put, List.setIfInBounds_toArray, List.set_cons_zero, List.set_cons_succ, i64_w, i32_w]
            rfl
           refine pure_ (i := 6) (N := some 51) (v := ?_) (a' := ?_) #[true, true, true, true, true, true, true, false, false] rfl rfl (any_of HT_.out (by kernel_rfl)) (fun _ _ _ h => h) (Or.inl ⟨by rfl, ?_⟩) ?_ ?_
           rotate_left
           ·intro w'
            go_simp
            with_reducible rfl
           rotate_left
           ·simp only [Act.put, List.setIfInBounds_toArray, List.set_cons_zero, List.set_cons_succ, i64_w, i32_w]
            rfl
           refine one_ (i := 7) (N := some 6) #[true, true, true, true, true, true, true, true, false] rfl rfl (one_of HT_.out (by kernel_rfl)) (by decide) (fun K hK => ?_)
           refine box_step ?hg (N := 6) ?hd (cs := #[.bool false, .slice none 0 0, .slice none 0 0]) (t := 64) ?hr ?_; (case hd => rfl); (case hg => rfl); (case hr => first | (go_simp; done) | (go_simp; rfl))
           intro gb301 hg w75 hbox hb
           have n0_ := Aside0.mk (Kd.V_below (Kd.V_elderB (vl HO297.out) gb301 (Nat.le_of_eq hg.symm)) hb)
           have n1_ := Aside0.mk (Kd.V_below (Kd.V_elderB (vl HO300.out) gb301 (Nat.le_of_eq hg.symm)) hb)
           have n2_ := Aside0.mk (blk_below (bk BK289.out) hb)
           have n3_ := Aside0.mk (blk_below (bk BK290.out) hb)
           have n4_ := Aside0.mk (below_step (bl HB.out) hb)
           have n5_ := Aside0.mk (hbox)
           have n6_ := Aside0.mk (szg hg (bl HB.out))
           have n7_ := Aside0.mk (szg hg (bl HB.out))
           have n8_ := Aside0.mk (ntl hg (bk BK289.out))
           have n9_ := Aside0.mk (ntg hg (bk BK289.out))
           have n10_ := Aside0.mk (ntl hg (bk BK290.out))
           have n11_ := Aside0.mk (ntg hg (bk BK290.out))
           clear HO297
           clear HO300
           clear BK289
           clear BK290
           clear HB
           have HO297 := n0_
           have HO300 := n1_
           have BK289 := n2_
           have BK290 := n3_
           have HB := n4_
           have BK301 := n5_
           have GW301 := n6_
           have GE301 := n7_
           have NB289_301 := n8_
           have NB301_289 := n9_
           have NB290_301 := n10_
           have NB301_290 := n11_
           clear n0_ n1_ n2_ n3_ n4_ n5_ n6_ n7_ n8_ n9_ n10_ n11_
           clear hb hbox hg
           refine hK.out _ _ ⟨(blk_cell BK289.out 0).trans rfl, (blk_cell BK289.out 1).trans rfl⟩ (fun hHeld => ?_)
           clear hK K
           refine norm_ (a' := ?_) ?_ ?_
           rotate_left
           ·show Act.put _ (some 6) _ = _
            simp only [Act.put, List.setIfInBounds_toArray, List.set_cons_zero, List.set_cons_succ, i64_w, i32_w]
            rfl
           exact norm_ (by simp only [putAll, Act.put, List.setIfInBounds_toArray, List.set_cons_zero, List.set_cons_succ]) (hCont (.slice Ao74 t295.length co74, .slice Ao73 t298.length co73, gb301) _ ⟨hHeld, (by (with_reducible repeat (first | apply Kd.V_alloc | apply Kd.V_drewN | apply Kd.V_drew)); exact Kd.V_mono HO297.out (fun _ hk => ⟨hk.1.1, ⟨hk.1.2.1, ⟨hk.1.2.2, hk.2⟩⟩⟩)), (by (with_reducible repeat (first | apply Kd.V_alloc | apply Kd.V_drewN | apply Kd.V_drew)); exact Kd.V_mono HO300.out (fun _ hk => ⟨hk.1.1, ⟨hk.1.2.1, ⟨hk.1.2.2, hk.2⟩⟩⟩)), (bk BK289.out), (bk BK290.out), (bk BK301.out), GW301.out, GE301.out, NB289_301.out, NB301_289.out, NB290_301.out, NB301_290.out, (bl HB.out)⟩)
          ·skip
           refine box_step ?hg (N := 6) ?hd (cs := #[.bool false, .slice none 0 0, .slice none 0 0]) (t := 64) ?hr ?_; (case hd => rfl); (case hg => rfl); (case hr => first | (go_simp; done) | (go_simp; rfl))
           intro gb301 hg w72 hbox hb
           have n0_ := Aside0.mk (Kd.V_below (Kd.V_elderB (vl HO297.out) gb301 (Nat.le_of_eq hg.symm)) hb)
           have n1_ := Aside0.mk (blk_below (bk BK289.out) hb)
           have n2_ := Aside0.mk (blk_below (bk BK290.out) hb)
           have n3_ := Aside0.mk (below_step (bl HB.out) hb)
           have n4_ := Aside0.mk (hbox)
           have n5_ := Aside0.mk (szg hg (bl HB.out))
           have n6_ := Aside0.mk (szg hg (bl HB.out))
           have n7_ := Aside0.mk (ntl hg (bk BK289.out))
           have n8_ := Aside0.mk (ntg hg (bk BK289.out))
           have n9_ := Aside0.mk (ntl hg (bk BK290.out))
           have n10_ := Aside0.mk (ntg hg (bk BK290.out))
           clear HO297
           clear BK289
           clear BK290
           clear HB
           have HO297 := n0_
           have BK289 := n1_
           have BK290 := n2_
           have HB := n3_
           have BK301 := n4_
           have GW301 := n5_
           have GE301 := n6_
           have NB289_301 := n7_
           have NB301_289 := n8_
           have NB290_301 := n9_
           have NB301_290 := n10_
           clear n0_ n1_ n2_ n3_ n4_ n5_ n6_ n7_ n8_ n9_ n10_
           clear hb hbox hg
           refine hK.out _ _ ⟨(blk_cell BK289.out 0).trans rfl, (blk_cell BK289.out 1).trans rfl⟩ (fun hHeld => ?_)
           clear hK K
           refine norm_ (a' := ?_) ?_ ?_
           rotate_left
           ·show Act.put _ (some 6) _ = _
            simp only [Act.put, List.setIfInBounds_toArray, List.set_cons_zero, List.set_cons_succ, i64_w, i32_w]
            rfl
           refine one_ (i := 5) (N := some 50) #[true, true, true, true, true, true, false, true, false] rfl rfl (one_of HT_.out (by kernel_rfl)) (by decide) (fun K hK => ?_)
           refine goes_ Tryz.func58 (by kernel_rfl) rfl #[.string a0_1] (by rfl) rfl rfl (by (try simp only [List.map_toArray, List.map_cons, List.map_nil]); first | done | rfl | (simp only [List.length_drop, List.length_take]; rfl)) ?_
           with_reducible refine (exact_parse.calls kj36 a0_1 t298 _ ?side1 A45.out).mono ?_
           (case side1 => first | exact hGl | exact gl_below hGl (bl HB.out))
           rintro e w73 ⟨v299, rfl, ho0, hb⟩
           refine ⟨_, rfl, ?_⟩
           have n0_ := Aside0.mk (Kd.V_below (vl HO297.out) hb)
           have n1_ := Aside0.mk (Kd.V_lower (Kd.V_mono (ok' := fun k_ => (w.heap.size ≤ k_) ∧ k_ ≠ gb289 ∧ k_ ≠ gb290 ∧ k_ ≠ gb301) ho0 (fun k_ hk_ => ⟨(Nat.le_trans (below_size (bl HB.out)) hk_), (Kd.freshB (bk BK289.out) k_ hk_), (Kd.freshB (bk BK290.out) k_ hk_), (Kd.freshB (bk BK301.out) k_ hk_)⟩)) (below_size (bl HB.out)))
           have n2_ := Aside0.mk (blk_below (bk BK289.out) hb)
           have n3_ := Aside0.mk (blk_below (bk BK290.out) hb)
           have n4_ := Aside0.mk (blk_below (bk BK301.out) hb)
           have n5_ := Aside0.mk (below_step (bl HB.out) hb)
           clear HO297
           clear BK289
           clear BK290
           clear BK301
           clear HB
           have HO297 := n0_
           have HO300 := n1_
           have BK289 := n2_
           have BK290 := n3_
           have BK301 := n4_
           have HB := n5_
           clear n0_ n1_ n2_ n3_ n4_ n5_
           (try clear hb)
           (try clear hb2)
           (try clear hk)
           (try clear hi)
           (try clear ho0)
           obtain ⟨Ao74, co74, eo74⟩ := Kd.V_slice HO300.out
           (first | subst eo74 | (injection eo74 with f1_ f2_ f3_; have f4_ := f1_.symm; have f5_ := f3_.symm; clear f1_ f2_ f3_; subst f4_; subst f5_))
           obtain ⟨Ao75, co75, eo75⟩ := Kd.V_slice HO297.out
           (first | subst eo75 | (injection eo75 with f1_ f2_ f3_; have f4_ := f1_.symm; have f5_ := f3_.symm; clear f1_ f2_ f3_; subst f4_; subst f5_))
           refine hK.out _ _ ⟨(blk_cell BK289.out 0).trans rfl, (blk_cell BK289.out 1).trans rfl⟩ (fun hHeld => ?_)
           clear hK K
           refine norm_ (a' := ?_) ?_ ?_
           rotate_left
           ·show Act.put _ (some 50) _ = _
            simp only [Act.put, List.setIfInBounds_toArray, List.set_cons_zero, List.set_cons_succ, i64_w, i32_w]
            rfl
           refine pure_ (i := 6) (N := some 51) (v := ?_) (a' := ?_) #[true, true, true, true, true, true, true, true, false] rfl rfl (any_of HT_.out (by kernel_rfl)) (fun _ _ _ h => h) (Or.inl ⟨by rfl, ?_⟩) ?_ ?_
           rotate_left
           ·intro w'
            go_simp
            with_reducible rfl
           rotate_left
           ·simp only [Act.put, List.setIfInBounds_toArray, List.set_cons_zero, List.set_cons_succ, i64_w, i32_w]
            rfl
           exact norm_ (by simp only [putAll, Act.put, List.setIfInBounds_toArray, List.set_cons_zero, List.set_cons_succ]) (hCont (.slice Ao75 t295.length co75, .slice Ao74 t298.length co74, gb301) _ ⟨hHeld, (by (with_reducible repeat (first | apply Kd.V_alloc | apply Kd.V_drewN | apply Kd.V_drew)); exact Kd.V_mono HO297.out (fun _ hk => ⟨hk.1.1, ⟨hk.1.2.1, ⟨hk.1.2.2, hk.2⟩⟩⟩)), (vl HO300.out), (bk BK289.out), (bk BK290.out), (bk BK301.out), GW301.out, GE301.out, NB289_301.out, NB301_289.out, NB290_301.out, NB301_290.out, (bl HB.out)⟩)
         ·skip
          refine box_step ?hg (N := 6) ?hd (cs := #[.bool false, .slice none 0 0, .slice none 0 0]) (t := 64) ?hr ?_; (case hd => rfl); (case hg => rfl); (case hr => first | (go_simp; done) | (go_simp; rfl))
          intro gb301 hg w71 hbox hb
          have n0_ := Aside0.mk (blk_below (bk BK289.out) hb)
          have n1_ := Aside0.mk (blk_below (bk BK290.out) hb)
          have n2_ := Aside0.mk (below_step (bl HB.out) hb)
          have n3_ := Aside0.mk (hbox)
          have n4_ := Aside0.mk (szg hg (bl HB.out))
          have n5_ := Aside0.mk (szg hg (bl HB.out))
          have n6_ := Aside0.mk (ntl hg (bk BK289.out))
          have n7_ := Aside0.mk (ntg hg (bk BK289.out))
          have n8_ := Aside0.mk (ntl hg (bk BK290.out))
          have n9_ := Aside0.mk (ntg hg (bk BK290.out))
          clear BK289
          clear BK290
          clear HB
          have BK289 := n0_
          have BK290 := n1_
          have HB := n2_
          have BK301 := n3_
          have GW301 := n4_
          have GE301 := n5_
          have NB289_301 := n6_
          have NB301_289 := n7_
          have NB290_301 := n8_
          have NB301_290 := n9_
          clear n0_ n1_ n2_ n3_ n4_ n5_ n6_ n7_ n8_ n9_
          clear hb hbox hg
          refine hK.out _ _ ⟨(blk_cell BK289.out 0).trans rfl, (blk_cell BK289.out 1).trans rfl⟩ (fun hHeld => ?_)
          clear hK K
          refine norm_ (a' := ?_) ?_ ?_
          rotate_left
          ·show Act.put _ (some 6) _ = _
           simp only [Act.put, List.setIfInBounds_toArray, List.set_cons_zero, List.set_cons_succ, i64_w, i32_w]
           rfl
          refine one_ (i := 2) (N := some 47) #[true, true, true, true, true, false, false, true, false] rfl rfl (one_of HT_.out (by kernel_rfl)) (by decide) (fun K hK => ?_)
          refine goes_ Tryz.func58 (by kernel_rfl) rfl #[.string t291] (by rfl) rfl rfl (by (try simp only [List.map_toArray, List.map_cons, List.map_nil]); first | done | rfl | (simp only [List.length_drop, List.length_take]; rfl)) ?_
          with_reducible refine (exact_parse.calls kj36 t291 t295 _ ?side1 A44.out).mono ?_
          (case side1 => first | exact hGl | exact gl_below hGl (bl HB.out))
          rintro e w72 ⟨v296, rfl, ho0, hb⟩
          refine ⟨_, rfl, ?_⟩
          have n0_ := Aside0.mk (Kd.V_lower (Kd.V_mono (ok' := fun k_ => (w.heap.size ≤ k_) ∧ k_ ≠ gb289 ∧ k_ ≠ gb290 ∧ k_ ≠ gb301) ho0 (fun k_ hk_ => ⟨(Nat.le_trans (below_size (bl HB.out)) hk_), (Kd.freshB (bk BK289.out) k_ hk_), (Kd.freshB (bk BK290.out) k_ hk_), (Kd.freshB (bk BK301.out) k_ hk_)⟩)) (below_size (bl HB.out)))
          have n1_ := Aside0.mk (blk_below (bk BK289.out) hb)
          have n2_ := Aside0.mk (blk_below (bk BK290.out) hb)
          have n3_ := Aside0.mk (blk_below (bk BK301.out) hb)
          have n4_ := Aside0.mk (below_step (bl HB.out) hb)
          clear BK289
          clear BK290
          clear BK301
          clear HB
          have HO297 := n0_
          have BK289 := n1_
          have BK290 := n2_
          have BK301 := n3_
          have HB := n4_
          clear n0_ n1_ n2_ n3_ n4_
          (try clear hb)
          (try clear hb2)
          (try clear hk)
          (try clear hi)
          (try clear ho0)
          refine hK.out _ _ ⟨(blk_cell BK289.out 0).trans rfl, (blk_cell BK289.out 1).trans rfl⟩ (fun hHeld => ?_)
          clear hK K
          refine norm_ (a' := ?_) ?_ ?_
          rotate_left
          ·show Act.put _ (some 47) _ = _
           simp only [Act.put, List.setIfInBounds_toArray, List.set_cons_zero, List.set_cons_succ, i64_w, i32_w]
           rfl
          refine one_ (i := 5) (N := some 50) #[true, true, true, true, true, true, false, true, false] rfl rfl (one_of HT_.out (by kernel_rfl)) (by decide) (fun K hK => ?_)
          refine goes_ Tryz.func58 (by kernel_rfl) rfl #[.string a0_1] (by rfl) rfl rfl (by (try simp only [List.map_toArray, List.map_cons, List.map_nil]); first | done | rfl | (simp only [List.length_drop, List.length_take]; rfl)) ?_
          with_reducible refine (exact_parse.calls kj36 a0_1 t298 _ ?side1 A45.out).mono ?_
          (case side1 => first | exact hGl | exact gl_below hGl (bl HB.out))
          rintro e w73 ⟨v299, rfl, ho0, hb⟩
          refine ⟨_, rfl, ?_⟩
          have n0_ := Aside0.mk (Kd.V_below (vl HO297.out) hb)
          have n1_ := Aside0.mk (Kd.V_lower (Kd.V_mono (ok' := fun k_ => (w.heap.size ≤ k_) ∧ k_ ≠ gb289 ∧ k_ ≠ gb290 ∧ k_ ≠ gb301) ho0 (fun k_ hk_ => ⟨(Nat.le_trans (below_size (bl HB.out)) hk_), (Kd.freshB (bk BK289.out) k_ hk_), (Kd.freshB (bk BK290.out) k_ hk_), (Kd.freshB (bk BK301.out) k_ hk_)⟩)) (below_size (bl HB.out)))
          have n2_ := Aside0.mk (blk_below (bk BK289.out) hb)
          have n3_ := Aside0.mk (blk_below (bk BK290.out) hb)
          have n4_ := Aside0.mk (blk_below (bk BK301.out) hb)
          have n5_ := Aside0.mk (below_step (bl HB.out) hb)
          clear HO297
          clear BK289
          clear BK290
          clear BK301
          clear HB
          have HO297 := n0_
          have HO300 := n1_
          have BK289 := n2_
          have BK290 := n3_
          have BK301 := n4_
          have HB := n5_
          clear n0_ n1_ n2_ n3_ n4_ n5_
          (try clear hb)
          (try clear hb2)
          (try clear hk)
          (try clear hi)
          (try clear ho0)
          obtain ⟨Ao74, co74, eo74⟩ := Kd.V_slice HO300.out
          (first | subst eo74 | (injection eo74 with f1_ f2_ f3_; have f4_ := f1_.symm; have f5_ := f3_.symm; clear f1_ f2_ f3_; subst f4_; subst f5_))
          obtain ⟨Ao75, co75, eo75⟩ := Kd.V_slice HO297.out
          (first | subst eo75 | (injection eo75 with f1_ f2_ f3_; have f4_ := f1_.symm; have f5_ := f3_.symm; clear f1_ f2_ f3_; subst f4_; subst f5_))
          refine hK.out _ _ ⟨(blk_cell BK289.out 0).trans rfl, (blk_cell BK289.out 1).trans rfl⟩ (fun hHeld => ?_)
          clear hK K
          refine norm_ (a' := ?_) ?_ ?_
          rotate_left
          ·show Act.put _ (some 50) _ = _
           simp only [Act.put, List.setIfInBounds_toArray, List.set_cons_zero, List.set_cons_succ, i64_w, i32_w]
           rfl
          refine pure_ (i := 6) (N := some 51) (v := ?_) (a' := ?_) #[true, true, true, true, true, true, true, true, false] rfl rfl (any_of HT_.out (by kernel_rfl)) (fun _ _ _ h => h) (Or.inl ⟨by rfl, ?_⟩) ?_ ?_
          rotate_left
          ·intro w'
           go_simp
           with_reducible rfl
          rotate_left
          ·simp only [Act.put, List.setIfInBounds_toArray, List.set_cons_zero, List.set_cons_succ, i64_w, i32_w]
           rfl
          exact norm_ (by simp only [putAll, Act.put, List.setIfInBounds_toArray, List.set_cons_zero, List.set_cons_succ]) (hCont (.slice Ao75 t295.length co75, .slice Ao74 t298.length co74, gb301) _ ⟨hHeld, (vl HO297.out), (vl HO300.out), (bk BK289.out), (bk BK290.out), (bk BK301.out), GW301.out, GE301.out, NB289_301.out, NB301_289.out, NB290_301.out, NB301_290.out, (bl HB.out)⟩)
        rintro ⟨v296, v299, gb301⟩ w76 ⟨hS_, h0_, h1_, h2_, h3_, h4_, h5_, h6_, h7_, h8_, h9_, h10_, h11_⟩
        have n0_ : Aside0 (Kd.V (Kd.int .u32) 69 w76 w.heap.size (fun k_ => (w.heap.size ≤ k_) ∧ k_ ≠ gb289 ∧ k_ ≠ gb290 ∧ k_ ≠ gb301) v296 t295) := ⟨h0_⟩
        have n1_ : Aside0 (Kd.V (Kd.int .u32) 69 w76 w.heap.size (fun k_ => (w.heap.size ≤ k_) ∧ k_ ≠ gb289 ∧ k_ ≠ gb290 ∧ k_ ≠ gb301) v299 t298) := ⟨h1_⟩
        have n2_ : Aside0 (w76.heap[gb289]? = some (.cells #[.string a0_0, .string a0_1] 30 (0, 0))) := ⟨h2_⟩
        have n3_ : Aside0 (w76.heap[gb290]? = some (.cells #[.bool false, .slice none 0 0, .slice none 0 0] 64 (0, 0))) := ⟨h3_⟩
        have n4_ : Aside0 (w76.heap[gb301]? = some (.cells #[.bool false, .slice none 0 0, .slice none 0 0] 64 (0, 0))) := ⟨h4_⟩
        have n5_ : Aside0 (w.heap.size ≤ gb301) := ⟨h5_⟩
        have n6_ : Aside0 (w.heap.size ≤ gb301) := ⟨h6_⟩
        have n7_ : Aside0 (gb289 ≠ gb301) := ⟨h7_⟩
        have n8_ : Aside0 (gb301 ≠ gb289) := ⟨h8_⟩
        have n9_ : Aside0 (gb290 ≠ gb301) := ⟨h9_⟩
        have n10_ : Aside0 (gb301 ≠ gb290) := ⟨h10_⟩
        have n11_ : Aside0 (Below w.heap.size w w76) := ⟨h11_⟩
        clear BK289
        clear BK290
        clear HB
        clear h0_ h1_ h2_ h3_ h4_ h5_ h6_ h7_ h8_ h9_ h10_ h11_
        have HO297 := n0_
        have HO300 := n1_
        have BK289 := n2_
        have BK290 := n3_
        have BK301 := n4_
        have GW301 := n5_
        have GE301 := n6_
        have NB289_301 := n7_
        have NB301_289 := n8_
        have NB290_301 := n9_
        have NB301_290 := n10_
        have HB := n11_
        clear n0_ n1_ n2_ n3_ n4_ n5_ n6_ n7_ n8_ n9_ n10_ n11_
        have hHeld : w76.cell? ⟨gb289, 0, none⟩ = some (.string a0_0) ∧ w76.cell? ⟨gb289, 1, none⟩ = some (.string a0_1) := hS_
        obtain ⟨Ao77, co77, eo77⟩ := Kd.V_slice HO300.out
        (first | subst eo77 | (injection eo77 with f1_ f2_ f3_; have f4_ := f1_.symm; have f5_ := f3_.symm; clear f1_ f2_ f3_; subst f4_; subst f5_))
        obtain ⟨Ao78, co78, eo78⟩ := Kd.V_slice HO297.out
        (first | subst eo78 | (injection eo78 with f1_ f2_ f3_; have f4_ := f1_.symm; have f5_ := f3_.symm; clear f1_ f2_ f3_; subst f4_; subst f5_))
        refine norm_ (a' := ?_) ?_ ?_
        rotate_left
        ·simp only [putAll, Act.put, List.setIfInBounds_toArray, List.set_cons_zero, List.set_cons_succ]
         rfl
        refine one_ (i := 8) (N := none) #[true, true, true, true, true, true, true, true, true] rfl rfl (one_of HT_.out (by kernel_rfl)) (by decide) (fun K hK => ?_)
        have hs79 : w76.cell? ⟨gb301, 0, none⟩ = some (.bool false) := (blk_cell BK301.out 0).trans rfl
        have hfs79 := blk_frozen BK301.out 0
        have hns79_0 := NB289_301.out
        have hns79_1 := NB290_301.out
        have hms79_0 := NB301_289.out
        have hms79_1 := NB301_290.out
        have hs80 : w76.cell? ⟨gb301, 1, none⟩ = some (.slice none 0 0) := (blk_cell BK301.out 1).trans rfl
        have hfs80 := blk_frozen BK301.out 1
        have hns80_0 := NB289_301.out
        have hns80_1 := NB290_301.out
        have hms80_0 := NB301_289.out
        have hms80_1 := NB301_290.out
        have hs81 : w76.cell? ⟨gb301, 2, none⟩ = some (.slice none 0 0) := (blk_cell BK301.out 2).trans rfl
        have hfs81 := blk_frozen BK301.out 2
        have hns81_0 := NB289_301.out
        have hns81_1 := NB290_301.out
        have hms81_0 := NB301_289.out
        have hms81_1 := NB301_290.out
        refine skip_ (w1 := ?_) (by rfl) rfl ?_ ?_
        rotate_left
        ·go_simp
         rfl
        refine hK.out _ _ ⟨((cell_far (p := ⟨gb301, _, none⟩) NB289_301.out _).trans (((cell_far (p := ⟨gb301, _, none⟩) NB289_301.out _).trans (((cell_far (p := ⟨gb301, _, none⟩) NB289_301.out _).trans (hHeld.1)))))), ((cell_far (p := ⟨gb301, _, none⟩) NB289_301.out _).trans (((cell_far (p := ⟨gb301, _, none⟩) NB289_301.out _).trans (((cell_far (p := ⟨gb301, _, none⟩) NB289_301.out _).trans (hHeld.2))))))⟩ (fun hHeld => ?_)
        clear hK K
        refine done_ (done_of HT_.out (by kernel_rfl)) ?_
        have n0_ : Aside0 (Kd.V (Kd.int .u32) 69 (((w76.setCell ⟨gb301, 0, none⟩ (.bool t292)).setCell ⟨gb301, 1, none⟩ (.slice Ao78 t295.length co78)).setCell ⟨gb301, 2, none⟩ (.slice Ao77 t298.length co77)) w.heap.size (fun k_ => (w.heap.size ≤ k_) ∧ k_ ≠ gb289 ∧ k_ ≠ gb290 ∧ k_ ≠ gb301) (.slice Ao78 t295.length co78) t295) := ⟨by (with_reducible repeat (first | apply Kd.V_alloc | apply Kd.V_drewN | apply Kd.V_drew)); exact Kd.V_mono (Kd.V_far (p := ⟨gb301, 2, none⟩) (Kd.V_far (p := ⟨gb301, 1, none⟩) (Kd.V_far (p := ⟨gb301, 0, none⟩) (Kd.V_mono HO297.out (fun k_ hk => (⟨hk, hk.2.2.2⟩ : _ ∧ k_ ≠ gb301))) (fun _ hk => hk.2) (.bool t292)) (fun _ hk => hk.2) (.slice Ao78 t295.length co78)) (fun _ hk => hk.2) (.slice Ao77 t298.length co77)) (fun _ hk => ⟨hk.1.1, ⟨hk.1.2.1, ⟨hk.1.2.2.1, hk.1.2.2.2⟩⟩⟩)⟩
        have n1_ : Aside0 (Kd.V (Kd.int .u32) 69 (((w76.setCell ⟨gb301, 0, none⟩ (.bool t292)).setCell ⟨gb301, 1, none⟩ (.slice Ao78 t295.length co78)).setCell ⟨gb301, 2, none⟩ (.slice Ao77 t298.length co77)) w.heap.size (fun k_ => (w.heap.size ≤ k_) ∧ k_ ≠ gb289 ∧ k_ ≠ gb290 ∧ k_ ≠ gb301) (.slice Ao77 t298.length co77) t298) := ⟨by (with_reducible repeat (first | apply Kd.V_alloc | apply Kd.V_drewN | apply Kd.V_drew)); exact Kd.V_mono (Kd.V_far (p := ⟨gb301, 2, none⟩) (Kd.V_far (p := ⟨gb301, 1, none⟩) (Kd.V_far (p := ⟨gb301, 0, none⟩) (Kd.V_mono HO300.out (fun k_ hk => (⟨hk, hk.2.2.2⟩ : _ ∧ k_ ≠ gb301))) (fun _ hk => hk.2) (.bool t292)) (fun _ hk => hk.2) (.slice Ao78 t295.length co78)) (fun _ hk => hk.2) (.slice Ao77 t298.length co77)) (fun _ hk => ⟨hk.1.1, ⟨hk.1.2.1, ⟨hk.1.2.2.1, hk.1.2.2.2⟩⟩⟩)⟩
        have n2_ : Aside0 ((((w76.setCell ⟨gb301, 0, none⟩ (.bool t292)).setCell ⟨gb301, 1, none⟩ (.slice Ao78 t295.length co78)).setCell ⟨gb301, 2, none⟩ (.slice Ao77 t298.length co77)).heap[gb289]? = some (.cells #[.string a0_0, .string a0_1] 30 (0, 0))) := ⟨bf BK289.out⟩
        have n3_ : Aside0 ((((w76.setCell ⟨gb301, 0, none⟩ (.bool t292)).setCell ⟨gb301, 1, none⟩ (.slice Ao78 t295.length co78)).setCell ⟨gb301, 2, none⟩ (.slice Ao77 t298.length co77)).heap[gb290]? = some (.cells #[.bool false, .slice none 0 0, .slice none 0 0] 64 (0, 0))) := ⟨bf BK290.out⟩
        have n4_ : Aside0 ((((w76.setCell ⟨gb301, 0, none⟩ (.bool t292)).setCell ⟨gb301, 1, none⟩ (.slice Ao78 t295.length co78)).setCell ⟨gb301, 2, none⟩ (.slice Ao77 t298.length co77)).heap[gb301]? = some (.cells #[.bool t292, .slice Ao78 t295.length co78, .slice Ao77 t298.length co77] 64 (0, 0))) := ⟨by (with_reducible repeat (first | refine blk_drewN ?_ _ | refine blk_drew ?_ | refine blk_alloc ?_ _)); refine blk_put (cs := #[.bool t292, .slice Ao78 t295.length co78, .slice none 0 0]) ?_ 2 _ rfl; (with_reducible repeat (first | refine blk_drewN ?_ _ | refine blk_drew ?_ | refine blk_alloc ?_ _)); refine blk_put (cs := #[.bool t292, .slice none 0 0, .slice none 0 0]) ?_ 1 _ rfl; (with_reducible repeat (first | refine blk_drewN ?_ _ | refine blk_drew ?_ | refine blk_alloc ?_ _)); refine blk_put (cs := #[.bool false, .slice none 0 0, .slice none 0 0]) ?_ 0 _ rfl; (with_reducible repeat (first | refine blk_drewN ?_ _ | refine blk_drew ?_ | refine blk_alloc ?_ _)); exact BK301.out⟩
        have n5_ : Aside0 (Below w.heap.size w (((w76.setCell ⟨gb301, 0, none⟩ (.bool t292)).setCell ⟨gb301, 1, none⟩ (.slice Ao78 t295.length co78)).setCell ⟨gb301, 2, none⟩ (.slice Ao77 t298.length co77))) := ⟨bl HB.out⟩
        (try clear HO297)
        (try clear HO300)
        (try clear BK289)
        (try clear BK290)
        (try clear BK301)
        (try clear HB)
        generalize (((w76.setCell ⟨gb301, 0, none⟩ (.bool t292)).setCell ⟨gb301, 1, none⟩ (.slice Ao78 t295.length co78)).setCell ⟨gb301, 2, none⟩ (.slice Ao77 t298.length co77)) = w82 at n0_ n1_ n2_ n3_ n4_ n5_ ⊢
        have HO297 := n0_
        have HO300 := n1_
        have BK289 := n2_
        have BK290 := n3_
        have BK301 := n4_
        have HB := n5_
        clear n0_ n1_ n2_ n3_ n4_ n5_
        have hnb83 := NB301_289.out
        have hnc83 := NB289_301.out
        have hnb84 := NB301_290.out
        have hnc84 := NB290_301.out
        have hcz85_0 : w82.cell? ⟨gb301, 0, none⟩ = some (.bool t292) := (blk_cell BK301.out 0).trans rfl
        have hcz85_1 : w82.cell? ⟨gb301, 1, none⟩ = some (.slice Ao78 t295.length co78) := (blk_cell BK301.out 1).trans rfl
        have hcz85_2 : w82.cell? ⟨gb301, 2, none⟩ = some (.slice Ao77 t298.length co77) := (blk_cell BK301.out 2).trans rfl
        have hfz85_0 := blk_frozen BK301.out 0
        have hfz85_1 := blk_frozen BK301.out 1
        have hfz85_2 := blk_frozen BK301.out 2
        try go_wp2_with (first | ((with_reducible refine gate_callee (f := 35) rfl ?_); refine goesL_ (some 56) rfl rfl Tryz.func35 (by kernel_rfl) rfl #[.slice Ao78 t295.length co78, .slice Ao77 t298.length co77] rfl (by (try simp only [List.map_toArray, List.map_cons, List.map_nil]); first | done | rfl | (simp only [List.length_drop, List.length_take]; rfl)) ?_; (with_reducible refine (exact_common.calls kj36 (fun k_ => ((w.heap.size ≤ k_) ∧ (k_ ≠ gb289 ∧ (k_ ≠ gb290 ∧ k_ ≠ gb301)))) _ _ t295 (fun k_ => ((w.heap.size ≤ k_) ∧ (k_ ≠ gb289 ∧ (k_ ≠ gb290 ∧ k_ ≠ gb301)))) _ _ t298 t302 _ ?side1 ?side2 ?side3 A46.out).mono ?_); (case side1 => exact HO297.out); (case side2 => exact HO300.out); (case side3 => first | exact hGl | exact gl_below hGl (bl HB.out)); rintro e w86 ⟨v303, rfl, ho0, hb⟩; refine ⟨_, rfl, ?_⟩; have n0_ := Aside0.mk (Kd.V_below (vl HO297.out) hb); have n1_ := Aside0.mk (Kd.V_below (vl HO300.out) hb); have n2_ := Aside0.mk (Kd.V_lower (Kd.V_mono (ok' := fun k_ => (w.heap.size ≤ k_) ∧ k_ ≠ gb289 ∧ k_ ≠ gb290 ∧ k_ ≠ gb301) ho0 (fun k_ hk_ => ⟨Or.elim hk_ (fun hs_ => Or.elim hs_ (fun hs_ => hs_.1) (fun hs_ => hs_.1)) (fun hn_ => (Nat.le_trans (below_size (bl HB.out)) hn_)), Or.elim hk_ (fun hs_ => Or.elim hs_ (fun hs_ => hs_.2.1) (fun hs_ => hs_.2.1)) (fun hn_ => (Kd.freshB (bk BK289.out) k_ hn_)), Or.elim hk_ (fun hs_ => Or.elim hs_ (fun hs_ => hs_.2.2.1) (fun hs_ => hs_.2.2.1)) (fun hn_ => (Kd.freshB (bk BK290.out) k_ hn_)), Or.elim hk_ (fun hs_ => Or.elim hs_ (fun hs_ => hs_.2.2.2) (fun hs_ => hs_.2.2.2)) (fun hn_ => (Kd.freshB (bk BK301.out) k_ hn_))⟩)) (below_size (bl HB.out))); have n3_ := Aside0.mk (blk_below (bk BK289.out) hb); have n4_ := Aside0.mk (blk_below (bk BK290.out) hb); have n5_ := Aside0.mk (blk_below (bk BK301.out) hb); have n6_ := Aside0.mk (below_step (bl HB.out) hb); clear HO297; clear HO300; clear BK289; clear BK290; clear BK301; clear HB; have HO297 := n0_; have HO300 := n1_; have HO304 := n2_; have BK289 := n3_; have BK290 := n4_; have BK301 := n5_; have HB := n6_; clear n0_ n1_ n2_ n3_ n4_ n5_ n6_; (try clear hb); (try clear hb2); (try clear hk); (try clear hi); (try clear ho0); obtain ⟨Ao87, co87, eo87⟩ := Kd.V_slice HO304.out; subst eo87) | ((with_reducible refine gate_callee (f := 32) rfl ?_); refine goesL_ (some 57) rfl rfl Tryz.func32 (by kernel_rfl) rfl #[.slice Ao87 t302.length co87] rfl (by (try simp only [List.map_toArray, List.map_cons, List.map_nil]); first | done | rfl | (simp only [List.length_drop, List.length_take]; rfl)) ?_; (with_reducible refine (exact_nat_one.calls _ _ t302 false _ ?side1 ?side2 ?side3 A47.out).mono ?_); (case side1 => repeat (first | exact (Kd.V_reads' HO304.out).2.2 | (with_reducible refine Kd.C_alloc ?_ _) | (with_reducible refine Kd.C_drewN ?_ _) | (with_reducible refine Kd.C_drew ?_))); (case side2 => exact (Kd.V_reads' HO304.out).2.1); (case side3 => first | exact hGl | exact gl_below hGl (bl HB.out)); rintro e w' ⟨rfl, ⟨nd, rfl⟩⟩; refine ⟨_, rfl, ?_⟩; (try (rw [drewN_self w86]; generalize hq_ : World.drewN w86 _ = w86; have n0_ : Aside0 (Kd.V (Kd.int .u32) 69 w86 w.heap.size (fun k_ => (w.heap.size ≤ k_) ∧ k_ ≠ gb289 ∧ k_ ≠ gb290 ∧ k_ ≠ gb301) (.slice Ao78 t295.length co78) t295) := ⟨by rw [← hq_]; exact (vl HO297.out)⟩; have n1_ : Aside0 (Kd.V (Kd.int .u32) 69 w86 w.heap.size (fun k_ => (w.heap.size ≤ k_) ∧ k_ ≠ gb289 ∧ k_ ≠ gb290 ∧ k_ ≠ gb301) (.slice Ao77 t298.length co77) t298) := ⟨by rw [← hq_]; exact (vl HO300.out)⟩; have n2_ : Aside0 (Kd.V (Kd.int .u32) 69 w86 w.heap.size (fun k_ => (w.heap.size ≤ k_) ∧ k_ ≠ gb289 ∧ k_ ≠ gb290 ∧ k_ ≠ gb301) (.slice Ao87 t302.length co87) t302) := ⟨by rw [← hq_]; exact (vl HO304.out)⟩; have n3_ : Aside0 (w86.heap[gb289]? = some (.cells #[.string a0_0, .string a0_1] 30 (0, 0))) := ⟨by rw [← hq_]; exact (bk BK289.out)⟩; have n4_ : Aside0 (w86.heap[gb290]? = some (.cells #[.bool false, .slice none 0 0, .slice none 0 0] 64 (0, 0))) := ⟨by rw [← hq_]; exact (bk BK290.out)⟩; have n5_ : Aside0 (w86.heap[gb301]? = some (.cells #[.bool t292, .slice Ao78 t295.length co78, .slice Ao77 t298.length co77] 64 (0, 0))) := ⟨by rw [← hq_]; exact (bk BK301.out)⟩; have n6_ : Aside0 (Below w.heap.size w w86) := ⟨by rw [← hq_]; exact (bl HB.out)⟩; clear HO297 HO300 HO304 BK289 BK290 BK301 HB hq_; have HO297 := n0_; have HO300 := n1_; have HO304 := n2_; have BK289 := n3_; have BK290 := n4_; have BK301 := n5_; have HB := n6_; clear n0_ n1_ n2_ n3_ n4_ n5_ n6_)); have hnb88 := NB290_289.out; have hnc88 := NB289_290.out; have hcz89_0 : w86.cell? ⟨gb290, 0, none⟩ = some (.bool false) := (blk_cell BK290.out 0).trans rfl; have hcz89_1 : w86.cell? ⟨gb290, 1, none⟩ = some (.slice none 0 0) := (blk_cell BK290.out 1).trans rfl; have hcz89_2 : w86.cell? ⟨gb290, 2, none⟩ = some (.slice none 0 0) := (blk_cell BK290.out 2).trans rfl; have hfz89_0 := blk_frozen BK290.out 0; have hfz89_1 := blk_frozen BK290.out 1; have hfz89_2 := blk_frozen BK290.out 2))
        refine bodyPost_ret (results_ct rfl _ _ gb290 64 #[.bool false, .slice none 0 0, .slice none 0 0] (0, 0) _ rfl (by (with_reducible repeat (first | refine blk_drewN ?_ _ | refine blk_drew ?_ | refine blk_alloc ?_ _)); refine blk_put (cs := #[.bool false, .slice none 0 0, .slice none 0 0]) ?_ 2 _ rfl; (with_reducible repeat (first | refine blk_drewN ?_ _ | refine blk_drew ?_ | refine blk_alloc ?_ _)); refine blk_put (cs := #[.bool false, .slice none 0 0, .slice none 0 0]) ?_ 1 _ rfl; (with_reducible repeat (first | refine blk_drewN ?_ _ | refine blk_drew ?_ | refine blk_alloc ?_ _)); refine blk_put (cs := #[.bool false, .slice none 0 0, .slice none 0 0]) ?_ 0 _ rfl; (with_reducible repeat (first | refine blk_drewN ?_ _ | refine blk_drew ?_ | refine blk_alloc ?_ _)); exact BK290.out) Tryz.underlying64 rfl (by kernel_rfl)) rfl ?_
        exact ⟨_, _, by first | rfl | (simp [errW_none, errW_some] <;> rfl) | (simp [*, errW_none, errW_some] <;> rfl), Kd.V_nil _ _ _ _ _, Kd.V_nil _ _ _ _ _, bl HB.out⟩
end Go.Proofs.YtckfdhnimmaeiaaGreatDoor.Pr
