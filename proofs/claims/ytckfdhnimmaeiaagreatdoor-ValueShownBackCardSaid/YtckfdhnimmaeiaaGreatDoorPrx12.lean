-- Written by a program of this session (wip/tools) for this claim.
import Derived.Test.YtckfdhnimmaeiaaGreatDoorPrx0
import Derived.Test.YtckfdhnimmaeiaaGreatDoorPrx9
namespace Go.Proofs.YtckfdhnimmaeiaaGreatDoor.Pr
open Go.RowKit Go.Proofs.YtckfdhnimmaeiaaGreatDoorW.PrintWords Go.Proofs.YtckfdhnimmaeiaaGreatDoorW.PrintLast Go.Proofs.YtckfdhnimmaeiaaGreatDoorW.PrintMore
attribute [local go_sem] max2_int min2_int max_two min_two max_three min_three max_four min_four   -- for this text's walks alone
set_option linter.unusedVariables false
set_option linter.unusedSimpArgs false
/-! ### exact_both: function 45 -/
def exact_both.f (k : Nat) (a0_0 : ByteArray) (a0_1 : ByteArray) (a1_0 : ByteArray) (a1_1 : ByteArray) : Option (Bool × List Int × List Int × Bool × List Int × List Int × Int) := (exact_read.f k a0_0 a0_1).bind fun bt401 => (if bt401.2.2.2 = 0 then ((exact_read.f k a1_0 a1_1).bind fun bt410 => (some (bt401.1, bt401.2.1, bt401.2.2.1, bt410.1, bt410.2.1, bt410.2.2.1, bt410.2.2.2))) else (some (bt401.1, bt401.2.1, bt401.2.2.1, bt401.1, bt401.2.1, bt401.2.2.1, bt401.2.2.2)))
theorem exact_both.mono : ∀ a0 a1 a2 a3 k, LeO (exact_both.f k a0 a1 a2 a3) (exact_both.f (k + 1) a0 a1 a2 a3) := by
  intro a0 a1 a2 a3 k
  unfold exact_both.f
  repeat' first
      | (with_reducible exact exact_read.mono _ _ _)
      | (with_reducible exact LeO.refl _)
      | (with_reducible exact LeO.none _)
      | (with_reducible refine LeO.ite ?_ ?_)
      | (with_reducible refine LeO.bind ?_ (fun _ => ?_))
      | exact exact_read.mono _ _ _
      | exact LeO.none _
      | refine LeO.ite ?_ ?_
      | refine LeO.bind ?_ (fun _ => ?_)
set_option maxHeartbeats 8000000 in
set_option maxRecDepth 100000 in
theorem exact_both.calls (k : Nat) (a0_0 : ByteArray) (a0_1 : ByteArray) (a1_0 : ByteArray) (a1_1 : ByteArray) (r1 : Bool) (r2 : List Int) (r3 : List Int) (r4 : Bool) (r5 : List Int) (r6 : List Int) (r7 : Int) (w : World) (hGl : Gl w) (h : exact_both.f k a0_0 a0_1 a1_0 a1_1 = some (r1, r2, r3, r4, r5, r6, r7)) :
    Calls Tryz.prog 80 #[.agg #[.string a0_0, .string a0_1], .agg #[.string a1_0, .string a1_1]] w fun e w' => ∃ v1_ v2_ v4_ v5_ : Value, e = .returned (.tuple #[.agg #[.bool r1, v1_, v2_], .agg #[.bool r4, v4_, v5_], .int .i64 r7]) ∧ Kd.V (Kd.int .u32) 69 w' w.heap.size (fun k_ => (w.heap.size ≤ k_)) v1_ r2 ∧ Kd.V (Kd.int .u32) 69 w' w.heap.size (fun k_ => (w.heap.size ≤ k_)) v2_ r3 ∧ Kd.V (Kd.int .u32) 69 w' w.heap.size (fun k_ => (w.heap.size ≤ k_)) v4_ r5 ∧ Kd.V (Kd.int .u32) 69 w' w.heap.size (fun k_ => (w.heap.size ≤ k_)) v5_ r6 ∧ Below w.heap.size w w' := by
 have hu23 := Tryz.underlying30
 have hu80 := Tryz.underlying64
 have HB := Aside0.mk (Below.refl w.heap.size w)
 have H : ((exact_read.f k a0_0 a0_1).bind fun bt401 => (if bt401.2.2.2 = 0 then ((exact_read.f k a1_0 a1_1).bind fun bt410 => (some (bt401.1, bt401.2.1, bt401.2.2.1, bt410.1, bt410.2.1, bt410.2.2.1, bt410.2.2.2))) else (some (bt401.1, bt401.2.1, bt401.2.2.1, bt401.1, bt401.2.1, bt401.2.2.1, bt401.2.2.2)))) = some (r1, r2, r3, r4, r5, r6, r7) := h
 clear h
 replace H := Option.bind_eq_some_iff.mp H
 obtain ⟨⟨t401, t402, t405, t408⟩, A30, H⟩ := H
 replace H : (if t408 = 0 then ((exact_read.f k a1_0 a1_1).bind fun bt410 => (some (t401, t402, t405, bt410.1, bt410.2.1, bt410.2.2.1, bt410.2.2.2))) else (some (t401, t402, t405, t401, t402, t405, t408))) = some (r1, r2, r3, r4, r5, r6, r7) := H
 have A3 := Aside0.mk A30
 clear A30
 by_cases c4 : t408 = 0
 ·rw [if_pos c4] at H
  have c4b0 : (t408 == 0) = true := beq_iff_eq.mpr c4
  have c4b1 : (t408 != 0) = false := bne_eq_false_iff_eq.mpr c4
  clear c4
  replace H := Option.bind_eq_some_iff.mp H
  obtain ⟨⟨t410, t411, t414, t417⟩, A50, H⟩ := H
  replace H : (some (t401, t402, t405, t410, t411, t414, t417)) = some (r1, r2, r3, r4, r5, r6, r7) := H
  have A5 := Aside0.mk A50
  clear A50
  simp only [Option.some.injEq, Prod.mk.injEq] at H
  obtain ⟨rfl, rfl, rfl, rfl, rfl, rfl, rfl⟩ := H
  go_enter Tryz.func80, Tryz.ntmps80
  try go_wp2_with (first | ((with_reducible refine gate_dst (N := 2) rfl ?_); refine box_event ?hg (N := 2) ?hd (cs := #[.string a0_0, .string a0_1]) (t := 30) ?hr ?_; (case hd => rfl); (case hg => rfl); (case hr => first | (go_simp; done) | (go_simp; rfl)); intro gb397 hg w6 hbox hb; have n0_ := Aside0.mk (below_step (bl HB.out) hb); have n1_ := Aside0.mk (hbox); have n2_ := Aside0.mk (szg hg (bl HB.out)); have n3_ := Aside0.mk (szg hg (bl HB.out)); clear HB; have HB := n0_; have BK397 := n1_; have GW397 := n2_; have GE397 := n3_; clear n0_ n1_ n2_ n3_; clear hb hbox hg) | ((with_reducible refine gate_dst (N := 3) rfl ?_); refine box_event ?hg (N := 3) ?hd (cs := #[.string a1_0, .string a1_1]) (t := 30) ?hr ?_; (case hd => rfl); (case hg => rfl); (case hr => first | (go_simp; done) | (go_simp; rfl)); intro gb398 hg w7 hbox hb; have n0_ := Aside0.mk (blk_below (bk BK397.out) hb); have n1_ := Aside0.mk (below_step (bl HB.out) hb); have n2_ := Aside0.mk (hbox); have n3_ := Aside0.mk (szg hg (bl HB.out)); have n4_ := Aside0.mk (szg hg (bl HB.out)); have n5_ := Aside0.mk (ntl hg (bk BK397.out)); have n6_ := Aside0.mk (ntg hg (bk BK397.out)); clear BK397; clear HB; have BK397 := n0_; have HB := n1_; have BK398 := n2_; have GW398 := n3_; have GE398 := n4_; have NB397_398 := n5_; have NB398_397 := n6_; clear n0_ n1_ n2_ n3_ n4_ n5_ n6_; clear hb hbox hg) | ((with_reducible refine gate_dst (N := 4) rfl ?_); refine box_event ?hg (N := 4) ?hd (cs := #[.bool false, .slice none 0 0, .slice none 0 0]) (t := 64) ?hr ?_; (case hd => rfl); (case hg => rfl); (case hr => first | (go_simp; done) | (go_simp; rfl)); intro gb399 hg w8 hbox hb; have n0_ := Aside0.mk (blk_below (bk BK397.out) hb); have n1_ := Aside0.mk (blk_below (bk BK398.out) hb); have n2_ := Aside0.mk (below_step (bl HB.out) hb); have n3_ := Aside0.mk (hbox); have n4_ := Aside0.mk (szg hg (bl HB.out)); have n5_ := Aside0.mk (szg hg (bl HB.out)); have n6_ := Aside0.mk (ntl hg (bk BK397.out)); have n7_ := Aside0.mk (ntg hg (bk BK397.out)); have n8_ := Aside0.mk (ntl hg (bk BK398.out)); have n9_ := Aside0.mk (ntg hg (bk BK398.out)); clear BK397; clear BK398; clear HB; have BK397 := n0_; have BK398 := n1_; have HB := n2_; have BK399 := n3_; have GW399 := n4_; have GE399 := n5_; have NB397_399 := n6_; have NB399_397 := n7_; have NB398_399 := n8_; have NB399_398 := n9_; clear n0_ n1_ n2_ n3_ n4_ n5_ n6_ n7_ n8_ n9_; clear hb hbox hg) | ((with_reducible refine gate_dst (N := 5) rfl ?_); refine box_event ?hg (N := 5) ?hd (cs := #[.bool false, .slice none 0 0, .slice none 0 0]) (t := 64) ?hr ?_; (case hd => rfl); (case hg => rfl); (case hr => first | (go_simp; done) | (go_simp; rfl)); intro gb400 hg w9 hbox hb; have n0_ := Aside0.mk (blk_below (bk BK397.out) hb); have n1_ := Aside0.mk (blk_below (bk BK398.out) hb); have n2_ := Aside0.mk (blk_below (bk BK399.out) hb); have n3_ := Aside0.mk (below_step (bl HB.out) hb); have n4_ := Aside0.mk (hbox); have n5_ := Aside0.mk (szg hg (bl HB.out)); have n6_ := Aside0.mk (szg hg (bl HB.out)); have n7_ := Aside0.mk (ntl hg (bk BK397.out)); have n8_ := Aside0.mk (ntg hg (bk BK397.out)); have n9_ := Aside0.mk (ntl hg (bk BK398.out)); have n10_ := Aside0.mk (ntg hg (bk BK398.out)); have n11_ := Aside0.mk (ntl hg (bk BK399.out)); have n12_ := Aside0.mk (ntg hg (bk BK399.out)); clear BK397; clear BK398; clear BK399; clear HB; have BK397 := n0_; have BK398 := n1_; have BK399 := n2_; have HB := n3_; have BK400 := n4_; have GW400 := n5_; have GE400 := n6_; have NB397_400 := n7_; have NB400_397 := n8_; have NB398_400 := n9_; have NB400_398 := n10_; have NB399_400 := n11_; have NB400_399 := n12_; clear n0_ n1_ n2_ n3_ n4_ n5_ n6_ n7_ n8_ n9_ n10_ n11_ n12_; clear hb hbox hg; have hnb10 := NB397_398.out; have hnc10 := NB398_397.out; have hnb11 := NB397_399.out; have hnc11 := NB399_397.out; have hnb12 := NB397_400.out; have hnc12 := NB400_397.out; have hcz13_0 : w9.cell? ⟨gb397, 0, none⟩ = some (.string a0_0) := (blk_cell BK397.out 0).trans rfl; have hcz13_1 : w9.cell? ⟨gb397, 1, none⟩ = some (.string a0_1) := (blk_cell BK397.out 1).trans rfl; have hfz13_0 := blk_frozen BK397.out 0; have hfz13_1 := blk_frozen BK397.out 1) | ((with_reducible refine gate_callee (f := 31) rfl ?_); refine goesL_ (some 12) rfl rfl Tryz.func31 (by kernel_rfl) rfl #[.agg #[.string a0_0, .string a0_1]] rfl (by (try simp only [List.map_toArray, List.map_cons, List.map_nil]); first | done | rfl | (simp only [List.length_drop, List.length_take]; rfl)) ?_; (with_reducible refine (exact_read.calls k a0_0 a0_1 t401 t402 t405 t408 _ ?side1 A3.out).mono ?_); (case side1 => first | exact hGl | exact gl_below hGl (bl HB.out)); rintro e w14 ⟨v403, v406, rfl, ho0, ho1, hb⟩; refine ⟨_, rfl, ?_⟩; have n0_ := Aside0.mk (Kd.V_lower (Kd.V_mono (ok' := fun k_ => (w.heap.size ≤ k_) ∧ k_ ≠ gb397 ∧ k_ ≠ gb398 ∧ k_ ≠ gb399 ∧ k_ ≠ gb400) ho0 (fun k_ hk_ => ⟨(Nat.le_trans (below_size (bl HB.out)) hk_), (Kd.freshB (bk BK397.out) k_ hk_), (Kd.freshB (bk BK398.out) k_ hk_), (Kd.freshB (bk BK399.out) k_ hk_), (Kd.freshB (bk BK400.out) k_ hk_)⟩)) (below_size (bl HB.out))); have n1_ := Aside0.mk (Kd.V_lower (Kd.V_mono (ok' := fun k_ => (w.heap.size ≤ k_) ∧ k_ ≠ gb397 ∧ k_ ≠ gb398 ∧ k_ ≠ gb399 ∧ k_ ≠ gb400) ho1 (fun k_ hk_ => ⟨(Nat.le_trans (below_size (bl HB.out)) hk_), (Kd.freshB (bk BK397.out) k_ hk_), (Kd.freshB (bk BK398.out) k_ hk_), (Kd.freshB (bk BK399.out) k_ hk_), (Kd.freshB (bk BK400.out) k_ hk_)⟩)) (below_size (bl HB.out))); have n2_ := Aside0.mk (blk_below (bk BK397.out) hb); have n3_ := Aside0.mk (blk_below (bk BK398.out) hb); have n4_ := Aside0.mk (blk_below (bk BK399.out) hb); have n5_ := Aside0.mk (blk_below (bk BK400.out) hb); have n6_ := Aside0.mk (below_step (bl HB.out) hb); clear BK397; clear BK398; clear BK399; clear BK400; clear HB; have HO404 := n0_; have HO407 := n1_; have BK397 := n2_; have BK398 := n3_; have BK399 := n4_; have BK400 := n5_; have HB := n6_; clear n0_ n1_ n2_ n3_ n4_ n5_ n6_; (try clear hb); (try clear hb2); (try clear hk); (try clear hi); (try clear ho0); (try clear ho1)) | ((with_reducible refine gate_dst (N := 7) rfl ?_); refine box_event ?hg (N := 7) ?hd (cs := #[.bool false, .slice none 0 0, .slice none 0 0]) (t := 64) ?hr ?_; (case hd => rfl); (case hg => rfl); (case hr => first | (go_simp; done) | (go_simp; rfl)); intro gb409 hg w15 hbox hb; have n0_ := Aside0.mk (Kd.V_below (Kd.V_elderB (vl HO404.out) gb409 (Nat.le_of_eq hg.symm)) hb); have n1_ := Aside0.mk (Kd.V_below (Kd.V_elderB (vl HO407.out) gb409 (Nat.le_of_eq hg.symm)) hb); have n2_ := Aside0.mk (blk_below (bk BK397.out) hb); have n3_ := Aside0.mk (blk_below (bk BK398.out) hb); have n4_ := Aside0.mk (blk_below (bk BK399.out) hb); have n5_ := Aside0.mk (blk_below (bk BK400.out) hb); have n6_ := Aside0.mk (below_step (bl HB.out) hb); have n7_ := Aside0.mk (hbox); have n8_ := Aside0.mk (szg hg (bl HB.out)); have n9_ := Aside0.mk (szg hg (bl HB.out)); have n10_ := Aside0.mk (ntl hg (bk BK397.out)); have n11_ := Aside0.mk (ntg hg (bk BK397.out)); have n12_ := Aside0.mk (ntl hg (bk BK398.out)); have n13_ := Aside0.mk (ntg hg (bk BK398.out)); have n14_ := Aside0.mk (ntl hg (bk BK399.out)); have n15_ := Aside0.mk (ntg hg (bk BK399.out)); have n16_ := Aside0.mk (ntl hg (bk BK400.out)); have n17_ := Aside0.mk (ntg hg (bk BK400.out)); clear HO404; clear HO407; clear BK397; clear BK398; clear BK399; clear BK400; clear HB; have HO404 := n0_; have HO407 := n1_; have BK397 := n2_; have BK398 := n3_; have BK399 := n4_; have BK400 := n5_; have HB := n6_; have BK409 := n7_; have GW409 := n8_; have GE409 := n9_; have NB397_409 := n10_; have NB409_397 := n11_; have NB398_409 := n12_; have NB409_398 := n13_; have NB399_409 := n14_; have NB409_399 := n15_; have NB400_409 := n16_; have NB409_400 := n17_; clear n0_ n1_ n2_ n3_ n4_ n5_ n6_ n7_ n8_ n9_ n10_ n11_ n12_ n13_ n14_ n15_ n16_ n17_; clear hb hbox hg; have hnb16 := NB409_397.out; have hnc16 := NB397_409.out; have hnb17 := NB409_398.out; have hnc17 := NB398_409.out; have hnb18 := NB409_399.out; have hnc18 := NB399_409.out; have hnb19 := NB409_400.out; have hnc19 := NB400_409.out; have hcz20_0 : w15.cell? ⟨gb409, 0, none⟩ = some (.bool false) := (blk_cell BK409.out 0).trans rfl; have hcz20_1 : w15.cell? ⟨gb409, 1, none⟩ = some (.slice none 0 0) := (blk_cell BK409.out 1).trans rfl; have hcz20_2 : w15.cell? ⟨gb409, 2, none⟩ = some (.slice none 0 0) := (blk_cell BK409.out 2).trans rfl; have hfz20_0 := blk_frozen BK409.out 0; have hfz20_1 := blk_frozen BK409.out 1; have hfz20_2 := blk_frozen BK409.out 2; obtain ⟨Ao21, co21, eo21⟩ := Kd.V_slice HO404.out; subst eo21; obtain ⟨Ao22, co22, eo22⟩ := Kd.V_slice HO407.out; subst eo22; have hnb23 := NB398_399.out; have hnc23 := NB399_398.out; have hnb24 := NB398_400.out; have hnc24 := NB400_398.out; have hcz25_0 : w15.cell? ⟨gb398, 0, none⟩ = some (.string a1_0) := (blk_cell BK398.out 0).trans rfl; have hcz25_1 : w15.cell? ⟨gb398, 1, none⟩ = some (.string a1_1) := (blk_cell BK398.out 1).trans rfl; have hfz25_0 := blk_frozen BK398.out 0; have hfz25_1 := blk_frozen BK398.out 1) | ((with_reducible refine gate_callee (f := 31) rfl ?_); refine goesL_ (some 22) rfl rfl Tryz.func31 (by kernel_rfl) rfl #[.agg #[.string a1_0, .string a1_1]] rfl (by (try simp only [List.map_toArray, List.map_cons, List.map_nil]); first | done | rfl | (simp only [List.length_drop, List.length_take]; rfl)) ?_; (with_reducible refine (exact_read.calls k a1_0 a1_1 t410 t411 t414 t417 _ ?side1 A5.out).mono ?_); (case side1 => first | exact hGl | exact gl_below hGl (bl HB.out)); rintro e w26 ⟨v412, v415, rfl, ho0, ho1, hb⟩; refine ⟨_, rfl, ?_⟩; have n0_ := Aside0.mk (Kd.V_below (by (with_reducible repeat (first | apply Kd.V_alloc | apply Kd.V_drewN | apply Kd.V_drew)); exact (Kd.V_mono (Kd.V_far (p := ⟨gb409, 2, none⟩) (Kd.V_far (p := ⟨gb409, 1, none⟩) (Kd.V_far (p := ⟨gb409, 0, none⟩) (Kd.V_mono HO404.out (fun k_ hk => (⟨hk, hk.2⟩ : _ ∧ k_ ≠ gb409))) (fun _ hk => hk.2) (.bool t401)) (fun _ hk => hk.2) (.slice Ao21 t402.length co21)) (fun _ hk => hk.2) (.slice Ao22 t405.length co22)) (fun _ h_ => h_.1))) hb); have n1_ := Aside0.mk (Kd.V_below (by (with_reducible repeat (first | apply Kd.V_alloc | apply Kd.V_drewN | apply Kd.V_drew)); exact (Kd.V_mono (Kd.V_far (p := ⟨gb409, 2, none⟩) (Kd.V_far (p := ⟨gb409, 1, none⟩) (Kd.V_far (p := ⟨gb409, 0, none⟩) (Kd.V_mono HO407.out (fun k_ hk => (⟨hk, hk.2⟩ : _ ∧ k_ ≠ gb409))) (fun _ hk => hk.2) (.bool t401)) (fun _ hk => hk.2) (.slice Ao21 t402.length co21)) (fun _ hk => hk.2) (.slice Ao22 t405.length co22)) (fun _ h_ => h_.1))) hb); have n2_ := Aside0.mk (Kd.V_lower (Kd.V_mono (ok' := fun k_ => (w.heap.size ≤ k_) ∧ k_ ≠ gb397 ∧ k_ ≠ gb398 ∧ k_ ≠ gb399 ∧ k_ ≠ gb400 ∧ k_ ≠ gb409) ho0 (fun k_ hk_ => ⟨(Nat.le_trans (below_size (bl HB.out)) hk_), (Kd.freshB (g := gb397) (o := .cells #[.string a0_0, .string a0_1] 30 (0, 0)) (bf BK397.out) k_ hk_), (Kd.freshB (g := gb398) (o := .cells #[.string a1_0, .string a1_1] 30 (0, 0)) (bf BK398.out) k_ hk_), (Kd.freshB (g := gb399) (o := .cells #[.bool false, .slice none 0 0, .slice none 0 0] 64 (0, 0)) (bf BK399.out) k_ hk_), (Kd.freshB (g := gb400) (o := .cells #[.bool false, .slice none 0 0, .slice none 0 0] 64 (0, 0)) (bf BK400.out) k_ hk_), (Kd.freshB (g := gb409) (o := .cells #[.bool t401, .slice Ao21 t402.length co21, .slice Ao22 t405.length co22] 64 (0, 0)) (by (with_reducible repeat (first | refine blk_drewN ?_ _ | refine blk_drew ?_ | refine blk_alloc ?_ _)); refine blk_put (cs := #[.bool t401, .slice Ao21 t402.length co21, .slice none 0 0]) ?_ 2 _ rfl; (with_reducible repeat (first | refine blk_drewN ?_ _ | refine blk_drew ?_ | refine blk_alloc ?_ _)); refine blk_put (cs := #[.bool t401, .slice none 0 0, .slice none 0 0]) ?_ 1 _ rfl; (with_reducible repeat (first | refine blk_drewN ?_ _ | refine blk_drew ?_ | refine blk_alloc ?_ _)); refine blk_put (cs := #[.bool false, .slice none 0 0, .slice none 0 0]) ?_ 0 _ rfl; (with_reducible repeat (first | refine blk_drewN ?_ _ | refine blk_drew ?_ | refine blk_alloc ?_ _)); exact BK409.out) k_ hk_)⟩)) (below_size (bl HB.out))); have n3_ := Aside0.mk (Kd.V_lower (Kd.V_mono (ok' := fun k_ => (w.heap.size ≤ k_) ∧ k_ ≠ gb397 ∧ k_ ≠ gb398 ∧ k_ ≠ gb399 ∧ k_ ≠ gb400 ∧ k_ ≠ gb409) ho1 (fun k_ hk_ => ⟨(Nat.le_trans (below_size (bl HB.out)) hk_), (Kd.freshB (g := gb397) (o := .cells #[.string a0_0, .string a0_1] 30 (0, 0)) (bf BK397.out) k_ hk_), (Kd.freshB (g := gb398) (o := .cells #[.string a1_0, .string a1_1] 30 (0, 0)) (bf BK398.out) k_ hk_), (Kd.freshB (g := gb399) (o := .cells #[.bool false, .slice none 0 0, .slice none 0 0] 64 (0, 0)) (bf BK399.out) k_ hk_), (Kd.freshB (g := gb400) (o := .cells #[.bool false, .slice none 0 0, .slice none 0 0] 64 (0, 0)) (bf BK400.out) k_ hk_), (Kd.freshB (g := gb409) (o := .cells #[.bool t401, .slice Ao21 t402.length co21, .slice Ao22 t405.length co22] 64 (0, 0)) (by (with_reducible repeat (first | refine blk_drewN ?_ _ | refine blk_drew ?_ | refine blk_alloc ?_ _)); refine blk_put (cs := #[.bool t401, .slice Ao21 t402.length co21, .slice none 0 0]) ?_ 2 _ rfl; (with_reducible repeat (first | refine blk_drewN ?_ _ | refine blk_drew ?_ | refine blk_alloc ?_ _)); refine blk_put (cs := #[.bool t401, .slice none 0 0, .slice none 0 0]) ?_ 1 _ rfl; (with_reducible repeat (first | refine blk_drewN ?_ _ | refine blk_drew ?_ | refine blk_alloc ?_ _)); refine blk_put (cs := #[.bool false, .slice none 0 0, .slice none 0 0]) ?_ 0 _ rfl; (with_reducible repeat (first | refine blk_drewN ?_ _ | refine blk_drew ?_ | refine blk_alloc ?_ _)); exact BK409.out) k_ hk_)⟩)) (below_size (bl HB.out))); have n4_ := Aside0.mk (blk_below (g := gb397) (o := .cells #[.string a0_0, .string a0_1] 30 (0, 0)) (bf BK397.out) hb); have n5_ := Aside0.mk (blk_below (g := gb398) (o := .cells #[.string a1_0, .string a1_1] 30 (0, 0)) (bf BK398.out) hb); have n6_ := Aside0.mk (blk_below (g := gb399) (o := .cells #[.bool false, .slice none 0 0, .slice none 0 0] 64 (0, 0)) (bf BK399.out) hb); have n7_ := Aside0.mk (blk_below (g := gb400) (o := .cells #[.bool false, .slice none 0 0, .slice none 0 0] 64 (0, 0)) (bf BK400.out) hb); have n8_ := Aside0.mk (blk_below (g := gb409) (o := .cells #[.bool t401, .slice Ao21 t402.length co21, .slice Ao22 t405.length co22] 64 (0, 0)) (by (with_reducible repeat (first | refine blk_drewN ?_ _ | refine blk_drew ?_ | refine blk_alloc ?_ _)); refine blk_put (cs := #[.bool t401, .slice Ao21 t402.length co21, .slice none 0 0]) ?_ 2 _ rfl; (with_reducible repeat (first | refine blk_drewN ?_ _ | refine blk_drew ?_ | refine blk_alloc ?_ _)); refine blk_put (cs := #[.bool t401, .slice none 0 0, .slice none 0 0]) ?_ 1 _ rfl; (with_reducible repeat (first | refine blk_drewN ?_ _ | refine blk_drew ?_ | refine blk_alloc ?_ _)); refine blk_put (cs := #[.bool false, .slice none 0 0, .slice none 0 0]) ?_ 0 _ rfl; (with_reducible repeat (first | refine blk_drewN ?_ _ | refine blk_drew ?_ | refine blk_alloc ?_ _)); exact BK409.out) hb); have n9_ := Aside0.mk (below_step (bl HB.out) hb); clear HO404; clear HO407; clear BK397; clear BK398; clear BK399; clear BK400; clear BK409; clear HB; have HO404 := n0_; have HO407 := n1_; have HO413 := n2_; have HO416 := n3_; have BK397 := n4_; have BK398 := n5_; have BK399 := n6_; have BK400 := n7_; have BK409 := n8_; have HB := n9_; clear n0_ n1_ n2_ n3_ n4_ n5_ n6_ n7_ n8_ n9_; (try clear hb); (try clear hb2); (try clear hk); (try clear hi); (try clear ho0); (try clear ho1)) | ((with_reducible refine gate_dst (N := 9) rfl ?_); refine box_event ?hg (N := 9) ?hd (cs := #[.bool false, .slice none 0 0, .slice none 0 0]) (t := 64) ?hr ?_; (case hd => rfl); (case hg => rfl); (case hr => first | (go_simp; done) | (go_simp; rfl)); intro gb418 hg w27 hbox hb; have n0_ := Aside0.mk (Kd.V_below (Kd.V_elderB (vl HO404.out) gb418 (Nat.le_of_eq hg.symm)) hb); have n1_ := Aside0.mk (Kd.V_below (Kd.V_elderB (vl HO407.out) gb418 (Nat.le_of_eq hg.symm)) hb); have n2_ := Aside0.mk (Kd.V_below (Kd.V_elderB (vl HO413.out) gb418 (Nat.le_of_eq hg.symm)) hb); have n3_ := Aside0.mk (Kd.V_below (Kd.V_elderB (vl HO416.out) gb418 (Nat.le_of_eq hg.symm)) hb); have n4_ := Aside0.mk (blk_below (bk BK397.out) hb); have n5_ := Aside0.mk (blk_below (bk BK398.out) hb); have n6_ := Aside0.mk (blk_below (bk BK399.out) hb); have n7_ := Aside0.mk (blk_below (bk BK400.out) hb); have n8_ := Aside0.mk (blk_below (bk BK409.out) hb); have n9_ := Aside0.mk (below_step (bl HB.out) hb); have n10_ := Aside0.mk (hbox); have n11_ := Aside0.mk (szg hg (bl HB.out)); have n12_ := Aside0.mk (szg hg (bl HB.out)); have n13_ := Aside0.mk (ntl hg (bk BK397.out)); have n14_ := Aside0.mk (ntg hg (bk BK397.out)); have n15_ := Aside0.mk (ntl hg (bk BK398.out)); have n16_ := Aside0.mk (ntg hg (bk BK398.out)); have n17_ := Aside0.mk (ntl hg (bk BK399.out)); have n18_ := Aside0.mk (ntg hg (bk BK399.out)); have n19_ := Aside0.mk (ntl hg (bk BK400.out)); have n20_ := Aside0.mk (ntg hg (bk BK400.out)); have n21_ := Aside0.mk (ntl hg (bk BK409.out)); have n22_ := Aside0.mk (ntg hg (bk BK409.out)); clear HO404; clear HO407; clear HO413; clear HO416; clear BK397; clear BK398; clear BK399; clear BK400; clear BK409; clear HB; have HO404 := n0_; have HO407 := n1_; have HO413 := n2_; have HO416 := n3_; have BK397 := n4_; have BK398 := n5_; have BK399 := n6_; have BK400 := n7_; have BK409 := n8_; have HB := n9_; have BK418 := n10_; have GW418 := n11_; have GE418 := n12_; have NB397_418 := n13_; have NB418_397 := n14_; have NB398_418 := n15_; have NB418_398 := n16_; have NB399_418 := n17_; have NB418_399 := n18_; have NB400_418 := n19_; have NB418_400 := n20_; have NB409_418 := n21_; have NB418_409 := n22_; clear n0_ n1_ n2_ n3_ n4_ n5_ n6_ n7_ n8_ n9_ n10_ n11_ n12_ n13_ n14_ n15_ n16_ n17_ n18_ n19_ n20_ n21_ n22_; clear hb hbox hg; have hnb28 := NB418_397.out; have hnc28 := NB397_418.out; have hnb29 := NB418_398.out; have hnc29 := NB398_418.out; have hnb30 := NB418_399.out; have hnc30 := NB399_418.out; have hnb31 := NB418_400.out; have hnc31 := NB400_418.out; have hnb32 := NB418_409.out; have hnc32 := NB409_418.out; have hcz33_0 : w27.cell? ⟨gb418, 0, none⟩ = some (.bool false) := (blk_cell BK418.out 0).trans rfl; have hcz33_1 : w27.cell? ⟨gb418, 1, none⟩ = some (.slice none 0 0) := (blk_cell BK418.out 1).trans rfl; have hcz33_2 : w27.cell? ⟨gb418, 2, none⟩ = some (.slice none 0 0) := (blk_cell BK418.out 2).trans rfl; have hfz33_0 := blk_frozen BK418.out 0; have hfz33_1 := blk_frozen BK418.out 1; have hfz33_2 := blk_frozen BK418.out 2; obtain ⟨Ao34, co34, eo34⟩ := Kd.V_slice HO413.out; subst eo34; obtain ⟨Ao35, co35, eo35⟩ := Kd.V_slice HO416.out; subst eo35))
  have n0_ : Aside0 (Kd.V (Kd.int .u32) 69 (((w27.setCell ⟨gb418, 0, none⟩ (.bool t410)).setCell ⟨gb418, 1, none⟩ (.slice Ao34 t411.length co34)).setCell ⟨gb418, 2, none⟩ (.slice Ao35 t414.length co35)) w.heap.size (fun k_ => (w.heap.size ≤ k_) ∧ k_ ≠ gb397 ∧ k_ ≠ gb398 ∧ k_ ≠ gb399 ∧ k_ ≠ gb400 ∧ k_ ≠ gb409 ∧ k_ ≠ gb418) (.slice Ao21 t402.length co21) t402) := ⟨by (with_reducible repeat (first | apply Kd.V_alloc | apply Kd.V_drewN | apply Kd.V_drew)); exact Kd.V_mono (Kd.V_far (p := ⟨gb418, 2, none⟩) (Kd.V_far (p := ⟨gb418, 1, none⟩) (Kd.V_far (p := ⟨gb418, 0, none⟩) (Kd.V_mono HO404.out (fun k_ hk => (⟨hk, hk.2⟩ : _ ∧ k_ ≠ gb418))) (fun _ hk => hk.2) (.bool t410)) (fun _ hk => hk.2) (.slice Ao34 t411.length co34)) (fun _ hk => hk.2) (.slice Ao35 t414.length co35)) (fun _ hk => ⟨hk.1.1.1.1, ⟨hk.1.1.1.2.1, ⟨hk.1.1.1.2.2.1, ⟨hk.1.1.1.2.2.2.1, ⟨hk.1.1.1.2.2.2.2, ⟨hk.1.1.2, hk.1.2⟩⟩⟩⟩⟩⟩)⟩
  have n1_ : Aside0 (Kd.V (Kd.int .u32) 69 (((w27.setCell ⟨gb418, 0, none⟩ (.bool t410)).setCell ⟨gb418, 1, none⟩ (.slice Ao34 t411.length co34)).setCell ⟨gb418, 2, none⟩ (.slice Ao35 t414.length co35)) w.heap.size (fun k_ => (w.heap.size ≤ k_) ∧ k_ ≠ gb397 ∧ k_ ≠ gb398 ∧ k_ ≠ gb399 ∧ k_ ≠ gb400 ∧ k_ ≠ gb409 ∧ k_ ≠ gb418) (.slice Ao22 t405.length co22) t405) := ⟨by (with_reducible repeat (first | apply Kd.V_alloc | apply Kd.V_drewN | apply Kd.V_drew)); exact Kd.V_mono (Kd.V_far (p := ⟨gb418, 2, none⟩) (Kd.V_far (p := ⟨gb418, 1, none⟩) (Kd.V_far (p := ⟨gb418, 0, none⟩) (Kd.V_mono HO407.out (fun k_ hk => (⟨hk, hk.2⟩ : _ ∧ k_ ≠ gb418))) (fun _ hk => hk.2) (.bool t410)) (fun _ hk => hk.2) (.slice Ao34 t411.length co34)) (fun _ hk => hk.2) (.slice Ao35 t414.length co35)) (fun _ hk => ⟨hk.1.1.1.1, ⟨hk.1.1.1.2.1, ⟨hk.1.1.1.2.2.1, ⟨hk.1.1.1.2.2.2.1, ⟨hk.1.1.1.2.2.2.2, ⟨hk.1.1.2, hk.1.2⟩⟩⟩⟩⟩⟩)⟩
  have n2_ : Aside0 (Kd.V (Kd.int .u32) 69 (((w27.setCell ⟨gb418, 0, none⟩ (.bool t410)).setCell ⟨gb418, 1, none⟩ (.slice Ao34 t411.length co34)).setCell ⟨gb418, 2, none⟩ (.slice Ao35 t414.length co35)) w.heap.size (fun k_ => (w.heap.size ≤ k_) ∧ k_ ≠ gb397 ∧ k_ ≠ gb398 ∧ k_ ≠ gb399 ∧ k_ ≠ gb400 ∧ k_ ≠ gb409 ∧ k_ ≠ gb418) (.slice Ao34 t411.length co34) t411) := ⟨by (with_reducible repeat (first | apply Kd.V_alloc | apply Kd.V_drewN | apply Kd.V_drew)); exact Kd.V_mono (Kd.V_far (p := ⟨gb418, 2, none⟩) (Kd.V_far (p := ⟨gb418, 1, none⟩) (Kd.V_far (p := ⟨gb418, 0, none⟩) (Kd.V_mono HO413.out (fun k_ hk => (⟨hk, hk.2⟩ : _ ∧ k_ ≠ gb418))) (fun _ hk => hk.2) (.bool t410)) (fun _ hk => hk.2) (.slice Ao34 t411.length co34)) (fun _ hk => hk.2) (.slice Ao35 t414.length co35)) (fun _ hk => ⟨hk.1.1.1, ⟨hk.1.1.2.1, ⟨hk.1.1.2.2.1, ⟨hk.1.1.2.2.2.1, ⟨hk.1.1.2.2.2.2.1, ⟨hk.1.1.2.2.2.2.2, hk.1.2⟩⟩⟩⟩⟩⟩)⟩
  have n3_ : Aside0 (Kd.V (Kd.int .u32) 69 (((w27.setCell ⟨gb418, 0, none⟩ (.bool t410)).setCell ⟨gb418, 1, none⟩ (.slice Ao34 t411.length co34)).setCell ⟨gb418, 2, none⟩ (.slice Ao35 t414.length co35)) w.heap.size (fun k_ => (w.heap.size ≤ k_) ∧ k_ ≠ gb397 ∧ k_ ≠ gb398 ∧ k_ ≠ gb399 ∧ k_ ≠ gb400 ∧ k_ ≠ gb409 ∧ k_ ≠ gb418) (.slice Ao35 t414.length co35) t414) := ⟨by (with_reducible repeat (first | apply Kd.V_alloc | apply Kd.V_drewN | apply Kd.V_drew)); exact Kd.V_mono (Kd.V_far (p := ⟨gb418, 2, none⟩) (Kd.V_far (p := ⟨gb418, 1, none⟩) (Kd.V_far (p := ⟨gb418, 0, none⟩) (Kd.V_mono HO416.out (fun k_ hk => (⟨hk, hk.2⟩ : _ ∧ k_ ≠ gb418))) (fun _ hk => hk.2) (.bool t410)) (fun _ hk => hk.2) (.slice Ao34 t411.length co34)) (fun _ hk => hk.2) (.slice Ao35 t414.length co35)) (fun _ hk => ⟨hk.1.1.1, ⟨hk.1.1.2.1, ⟨hk.1.1.2.2.1, ⟨hk.1.1.2.2.2.1, ⟨hk.1.1.2.2.2.2.1, ⟨hk.1.1.2.2.2.2.2, hk.1.2⟩⟩⟩⟩⟩⟩)⟩
  have n4_ : Aside0 ((((w27.setCell ⟨gb418, 0, none⟩ (.bool t410)).setCell ⟨gb418, 1, none⟩ (.slice Ao34 t411.length co34)).setCell ⟨gb418, 2, none⟩ (.slice Ao35 t414.length co35)).heap[gb397]? = some (.cells #[.string a0_0, .string a0_1] 30 (0, 0))) := ⟨bf BK397.out⟩
  have n5_ : Aside0 ((((w27.setCell ⟨gb418, 0, none⟩ (.bool t410)).setCell ⟨gb418, 1, none⟩ (.slice Ao34 t411.length co34)).setCell ⟨gb418, 2, none⟩ (.slice Ao35 t414.length co35)).heap[gb398]? = some (.cells #[.string a1_0, .string a1_1] 30 (0, 0))) := ⟨bf BK398.out⟩
  have n6_ : Aside0 ((((w27.setCell ⟨gb418, 0, none⟩ (.bool t410)).setCell ⟨gb418, 1, none⟩ (.slice Ao34 t411.length co34)).setCell ⟨gb418, 2, none⟩ (.slice Ao35 t414.length co35)).heap[gb399]? = some (.cells #[.bool false, .slice none 0 0, .slice none 0 0] 64 (0, 0))) := ⟨bf BK399.out⟩
  have n7_ : Aside0 ((((w27.setCell ⟨gb418, 0, none⟩ (.bool t410)).setCell ⟨gb418, 1, none⟩ (.slice Ao34 t411.length co34)).setCell ⟨gb418, 2, none⟩ (.slice Ao35 t414.length co35)).heap[gb400]? = some (.cells #[.bool false, .slice none 0 0, .slice none 0 0] 64 (0, 0))) := ⟨bf BK400.out⟩
  have n8_ : Aside0 ((((w27.setCell ⟨gb418, 0, none⟩ (.bool t410)).setCell ⟨gb418, 1, none⟩ (.slice Ao34 t411.length co34)).setCell ⟨gb418, 2, none⟩ (.slice Ao35 t414.length co35)).heap[gb409]? = some (.cells #[.bool t401, .slice Ao21 t402.length co21, .slice Ao22 t405.length co22] 64 (0, 0))) := ⟨bf BK409.out⟩
  have n9_ : Aside0 ((((w27.setCell ⟨gb418, 0, none⟩ (.bool t410)).setCell ⟨gb418, 1, none⟩ (.slice Ao34 t411.length co34)).setCell ⟨gb418, 2, none⟩ (.slice Ao35 t414.length co35)).heap[gb418]? = some (.cells #[.bool t410, .slice Ao34 t411.length co34, .slice Ao35 t414.length co35] 64 (0, 0))) := ⟨by (with_reducible repeat (first | refine blk_drewN ?_ _ | refine blk_drew ?_ | refine blk_alloc ?_ _)); refine blk_put (cs := #[.bool t410, .slice Ao34 t411.length co34, .slice none 0 0]) ?_ 2 _ rfl; (with_reducible repeat (first | refine blk_drewN ?_ _ | refine blk_drew ?_ | refine blk_alloc ?_ _)); refine blk_put (cs := #[.bool t410, .slice none 0 0, .slice none 0 0]) ?_ 1 _ rfl; (with_reducible repeat (first | refine blk_drewN ?_ _ | refine blk_drew ?_ | refine blk_alloc ?_ _)); refine blk_put (cs := #[.bool false, .slice none 0 0, .slice none 0 0]) ?_ 0 _ rfl; (with_reducible repeat (first | refine blk_drewN ?_ _ | refine blk_drew ?_ | refine blk_alloc ?_ _)); exact BK418.out⟩
  have n10_ : Aside0 (Below w.heap.size w (((w27.setCell ⟨gb418, 0, none⟩ (.bool t410)).setCell ⟨gb418, 1, none⟩ (.slice Ao34 t411.length co34)).setCell ⟨gb418, 2, none⟩ (.slice Ao35 t414.length co35))) := ⟨bl HB.out⟩
  (try clear HO404)
  (try clear HO407)
  (try clear HO413)
  (try clear HO416)
  (try clear BK397)
  (try clear BK398)
  (try clear BK399)
  (try clear BK400)
  (try clear BK409)
  (try clear BK418)
  (try clear HB)
  generalize (((w27.setCell ⟨gb418, 0, none⟩ (.bool t410)).setCell ⟨gb418, 1, none⟩ (.slice Ao34 t411.length co34)).setCell ⟨gb418, 2, none⟩ (.slice Ao35 t414.length co35)) = w36 at n0_ n1_ n2_ n3_ n4_ n5_ n6_ n7_ n8_ n9_ n10_ ⊢
  have HO404 := n0_
  have HO407 := n1_
  have HO413 := n2_
  have HO416 := n3_
  have BK397 := n4_
  have BK398 := n5_
  have BK399 := n6_
  have BK400 := n7_
  have BK409 := n8_
  have BK418 := n9_
  have HB := n10_
  clear n0_ n1_ n2_ n3_ n4_ n5_ n6_ n7_ n8_ n9_ n10_
  have n0_ := Aside0.mk (Kd.V_drew HO404.out)
  have n1_ := Aside0.mk (Kd.V_drew HO407.out)
  have n2_ := Aside0.mk (Kd.V_drew HO413.out)
  have n3_ := Aside0.mk (Kd.V_drew HO416.out)
  have n4_ := Aside0.mk (blk_drew BK397.out)
  have n5_ := Aside0.mk (blk_drew BK398.out)
  have n6_ := Aside0.mk (blk_drew BK399.out)
  have n7_ := Aside0.mk (blk_drew BK400.out)
  have n8_ := Aside0.mk (blk_drew BK409.out)
  have n9_ := Aside0.mk (blk_drew BK418.out)
  have n10_ := Aside0.mk (below_drew1 HB.out)
  clear HO404
  clear HO407
  clear HO413
  clear HO416
  clear BK397
  clear BK398
  clear BK399
  clear BK400
  clear BK409
  clear BK418
  clear HB
  have HO404 := n0_
  have HO407 := n1_
  have HO413 := n2_
  have HO416 := n3_
  have BK397 := n4_
  have BK398 := n5_
  have BK399 := n6_
  have BK400 := n7_
  have BK409 := n8_
  have BK418 := n9_
  have HB := n10_
  clear n0_ n1_ n2_ n3_ n4_ n5_ n6_ n7_ n8_ n9_ n10_
  refine start_ (n := 6) (S := fun w' => w'.cell? ⟨gb409, 0, none⟩ = some (.bool t401) ∧ w'.cell? ⟨gb409, 1, none⟩ = some (.slice Ao21 t402.length co21) ∧ w'.cell? ⟨gb409, 2, none⟩ = some (.slice Ao22 t405.length co22) ∧ w'.cell? ⟨gb418, 0, none⟩ = some (.bool t410) ∧ w'.cell? ⟨gb418, 1, none⟩ = some (.slice Ao34 t411.length co34) ∧ w'.cell? ⟨gb418, 2, none⟩ = some (.slice Ao35 t414.length co35)) (ds := []) #[false, false, false, false, false, false] (by kernel_rfl) rfl rfl ⟨(blk_cell BK409.out 0).trans rfl, (blk_cell BK409.out 1).trans rfl, (blk_cell BK409.out 2).trans rfl, (blk_cell BK418.out 0).trans rfl, (blk_cell BK418.out 1).trans rfl, (blk_cell BK418.out 2).trans rfl⟩ (fun hHeld => ?_)
  generalize w36.drew = w37 at HO404 HO407 HO413 HO416 BK397 BK398 BK399 BK400 BK409 BK418 HB hHeld ⊢
  refine pure_ (i := 2) (N := some 27) (v := ?_) (a' := ?_) #[false, false, true, false, false, false] rfl rfl (by kernel_rfl) (fun _ _ _ h => h) (Or.inl ⟨by rfl, ?_⟩) ?_ ?_
  rotate_left
  ·intro w'
   go_simp
   with_reducible rfl
  rotate_left
  ·simp only [Act.put, List.setIfInBounds_toArray, List.set_cons_zero, List.set_cons_succ, i64_w, i32_w]
   rfl
  refine take_ (i := 0) (N := some 25) (v := ?_) (a' := ?_) #[true, false, true, false, false, false] rfl rfl (by kernel_rfl) (fun _ _ _ h => h) (Or.inl ⟨by rfl, ?_⟩) hHeld ?_ ?_
  rotate_left
  ·rintro w' ⟨s0, s1, s2, s3, s4, s5⟩
   go_simp
   with_reducible rfl
  rotate_left
  ·simp only [Act.put, List.setIfInBounds_toArray, List.set_cons_zero, List.set_cons_succ, i64_w, i32_w]
   rfl
  refine take_ (i := 1) (N := some 26) (v := ?_) (a' := ?_) #[true, true, true, false, false, false] rfl rfl (by kernel_rfl) (fun _ _ _ h => h) (Or.inl ⟨by rfl, ?_⟩) hHeld ?_ ?_
  rotate_left
  ·rintro w' ⟨s0, s1, s2, s3, s4, s5⟩
   go_simp
   with_reducible rfl
  rotate_left
  ·simp only [Act.put, List.setIfInBounds_toArray, List.set_cons_zero, List.set_cons_succ, i64_w, i32_w]
   rfl
  refine one_ (i := 3) (N := none) #[true, true, true, true, false, false] rfl rfl (by kernel_rfl) (by decide) (fun K hK => ?_)
  have hs38 : w37.cell? ⟨gb399, 0, none⟩ = some (.bool false) := (blk_cell BK399.out 0).trans rfl
  have hfs38 := blk_frozen BK399.out 0
  have hns38_0 := NB397_399.out
  have hns38_1 := NB398_399.out
  have hns38_3 := NB400_399.out
  have hns38_4 := NB409_399.out
  have hns38_5 := NB418_399.out
  have hms38_0 := NB399_397.out
  have hms38_1 := NB399_398.out
  have hms38_3 := NB399_400.out
  have hms38_4 := NB399_409.out
  have hms38_5 := NB399_418.out
  have hs39 : w37.cell? ⟨gb399, 1, none⟩ = some (.slice none 0 0) := (blk_cell BK399.out 1).trans rfl
  have hfs39 := blk_frozen BK399.out 1
  have hns39_0 := NB397_399.out
  have hns39_1 := NB398_399.out
  have hns39_3 := NB400_399.out
  have hns39_4 := NB409_399.out
  have hns39_5 := NB418_399.out
  have hms39_0 := NB399_397.out
  have hms39_1 := NB399_398.out
  have hms39_3 := NB399_400.out
  have hms39_4 := NB399_409.out
  have hms39_5 := NB399_418.out
  have hs40 : w37.cell? ⟨gb399, 2, none⟩ = some (.slice none 0 0) := (blk_cell BK399.out 2).trans rfl
  have hfs40 := blk_frozen BK399.out 2
  have hns40_0 := NB397_399.out
  have hns40_1 := NB398_399.out
  have hns40_3 := NB400_399.out
  have hns40_4 := NB409_399.out
  have hns40_5 := NB418_399.out
  have hms40_0 := NB399_397.out
  have hms40_1 := NB399_398.out
  have hms40_3 := NB399_400.out
  have hms40_4 := NB399_409.out
  have hms40_5 := NB399_418.out
  refine skip_ (w1 := ?_) (by rfl) rfl ?_ ?_
  rotate_left
  ·go_simp
   rfl
  refine hK.out _ _ ⟨((cell_far (p := ⟨gb399, _, none⟩) NB409_399.out _).trans (((cell_far (p := ⟨gb399, _, none⟩) NB409_399.out _).trans (((cell_far (p := ⟨gb399, _, none⟩) NB409_399.out _).trans (hHeld.1)))))), ((cell_far (p := ⟨gb399, _, none⟩) NB409_399.out _).trans (((cell_far (p := ⟨gb399, _, none⟩) NB409_399.out _).trans (((cell_far (p := ⟨gb399, _, none⟩) NB409_399.out _).trans (hHeld.2.1)))))), ((cell_far (p := ⟨gb399, _, none⟩) NB409_399.out _).trans (((cell_far (p := ⟨gb399, _, none⟩) NB409_399.out _).trans (((cell_far (p := ⟨gb399, _, none⟩) NB409_399.out _).trans (hHeld.2.2.1)))))), ((cell_far (p := ⟨gb399, _, none⟩) NB418_399.out _).trans (((cell_far (p := ⟨gb399, _, none⟩) NB418_399.out _).trans (((cell_far (p := ⟨gb399, _, none⟩) NB418_399.out _).trans (hHeld.2.2.2.1)))))), ((cell_far (p := ⟨gb399, _, none⟩) NB418_399.out _).trans (((cell_far (p := ⟨gb399, _, none⟩) NB418_399.out _).trans (((cell_far (p := ⟨gb399, _, none⟩) NB418_399.out _).trans (hHeld.2.2.2.2.1)))))), ((cell_far (p := ⟨gb399, _, none⟩) NB418_399.out _).trans (((cell_far (p := ⟨gb399, _, none⟩) NB418_399.out _).trans (((cell_far (p := ⟨gb399, _, none⟩) NB418_399.out _).trans (hHeld.2.2.2.2.2))))))⟩ (fun hHeld => ?_)
  clear hK K
  refine one_ (i := 4) (N := none) #[true, true, true, true, true, false] rfl rfl (by kernel_rfl) (by decide) (fun K hK => ?_)
  have hs41 : w37.cell? ⟨gb400, 0, none⟩ = some (.bool false) := (blk_cell BK400.out 0).trans rfl
  have hfs41 := blk_frozen BK400.out 0
  have hns41_0 := NB397_400.out
  have hns41_1 := NB398_400.out
  have hns41_2 := NB399_400.out
  have hns41_4 := NB409_400.out
  have hns41_5 := NB418_400.out
  have hms41_0 := NB400_397.out
  have hms41_1 := NB400_398.out
  have hms41_2 := NB400_399.out
  have hms41_4 := NB400_409.out
  have hms41_5 := NB400_418.out
  have hs42 : w37.cell? ⟨gb400, 1, none⟩ = some (.slice none 0 0) := (blk_cell BK400.out 1).trans rfl
  have hfs42 := blk_frozen BK400.out 1
  have hns42_0 := NB397_400.out
  have hns42_1 := NB398_400.out
  have hns42_2 := NB399_400.out
  have hns42_4 := NB409_400.out
  have hns42_5 := NB418_400.out
  have hms42_0 := NB400_397.out
  have hms42_1 := NB400_398.out
  have hms42_2 := NB400_399.out
  have hms42_4 := NB400_409.out
  have hms42_5 := NB400_418.out
  have hs43 : w37.cell? ⟨gb400, 2, none⟩ = some (.slice none 0 0) := (blk_cell BK400.out 2).trans rfl
  have hfs43 := blk_frozen BK400.out 2
  have hns43_0 := NB397_400.out
  have hns43_1 := NB398_400.out
  have hns43_2 := NB399_400.out
  have hns43_4 := NB409_400.out
  have hns43_5 := NB418_400.out
  have hms43_0 := NB400_397.out
  have hms43_1 := NB400_398.out
  have hms43_2 := NB400_399.out
  have hms43_4 := NB400_409.out
  have hms43_5 := NB400_418.out
  refine skip_ (w1 := ?_) (by rfl) rfl ?_ ?_
  rotate_left
  ·go_simp
   rfl
  refine hK.out _ _ ⟨((cell_far (p := ⟨gb400, _, none⟩) NB409_400.out _).trans (((cell_far (p := ⟨gb400, _, none⟩) NB409_400.out _).trans (((cell_far (p := ⟨gb400, _, none⟩) NB409_400.out _).trans (hHeld.1)))))), ((cell_far (p := ⟨gb400, _, none⟩) NB409_400.out _).trans (((cell_far (p := ⟨gb400, _, none⟩) NB409_400.out _).trans (((cell_far (p := ⟨gb400, _, none⟩) NB409_400.out _).trans (hHeld.2.1)))))), ((cell_far (p := ⟨gb400, _, none⟩) NB409_400.out _).trans (((cell_far (p := ⟨gb400, _, none⟩) NB409_400.out _).trans (((cell_far (p := ⟨gb400, _, none⟩) NB409_400.out _).trans (hHeld.2.2.1)))))), ((cell_far (p := ⟨gb400, _, none⟩) NB418_400.out _).trans (((cell_far (p := ⟨gb400, _, none⟩) NB418_400.out _).trans (((cell_far (p := ⟨gb400, _, none⟩) NB418_400.out _).trans (hHeld.2.2.2.1)))))), ((cell_far (p := ⟨gb400, _, none⟩) NB418_400.out _).trans (((cell_far (p := ⟨gb400, _, none⟩) NB418_400.out _).trans (((cell_far (p := ⟨gb400, _, none⟩) NB418_400.out _).trans (hHeld.2.2.2.2.1)))))), ((cell_far (p := ⟨gb400, _, none⟩) NB418_400.out _).trans (((cell_far (p := ⟨gb400, _, none⟩) NB418_400.out _).trans (((cell_far (p := ⟨gb400, _, none⟩) NB418_400.out _).trans (hHeld.2.2.2.2.2))))))⟩ (fun hHeld => ?_)
  clear hK K
  refine pure_ (i := 5) (N := some 6) (v := ?_) (a' := ?_) #[true, true, true, true, true, true] rfl rfl (by kernel_rfl) (fun _ _ _ h => h) (Or.inl ⟨by rfl, ?_⟩) ?_ ?_
  rotate_left
  ·intro w'
   go_simp
   with_reducible rfl
  rotate_left
  ·simp only [Act.put, List.setIfInBounds_toArray, List.set_cons_zero, List.set_cons_succ, i64_w, i32_w]
   rfl
  refine done_ (by kernel_rfl) ?_
  try go_wp2
  refine bodyPost_ret (results_list (rs := [.cell 4 64, .cell 5 64, .tmp 6]) rfl (by simp) (.cell gb399 64 #[.bool t401, .slice Ao21 t402.length co21, .slice Ao22 t405.length co22] (0, 0) _ rfl (by (with_reducible repeat (first | refine blk_drewN ?_ _ | refine blk_drew ?_ | refine blk_alloc ?_ _)); refine blk_far ?_ NB399_400.out _; (with_reducible repeat (first | refine blk_drewN ?_ _ | refine blk_drew ?_ | refine blk_alloc ?_ _)); refine blk_far ?_ NB399_400.out _; (with_reducible repeat (first | refine blk_drewN ?_ _ | refine blk_drew ?_ | refine blk_alloc ?_ _)); refine blk_far ?_ NB399_400.out _; (with_reducible repeat (first | refine blk_drewN ?_ _ | refine blk_drew ?_ | refine blk_alloc ?_ _)); refine blk_put (cs := #[.bool t401, .slice Ao21 t402.length co21, .slice none 0 0]) ?_ 2 _ rfl; (with_reducible repeat (first | refine blk_drewN ?_ _ | refine blk_drew ?_ | refine blk_alloc ?_ _)); refine blk_put (cs := #[.bool t401, .slice none 0 0, .slice none 0 0]) ?_ 1 _ rfl; (with_reducible repeat (first | refine blk_drewN ?_ _ | refine blk_drew ?_ | refine blk_alloc ?_ _)); refine blk_put (cs := #[.bool false, .slice none 0 0, .slice none 0 0]) ?_ 0 _ rfl; (with_reducible repeat (first | refine blk_drewN ?_ _ | refine blk_drew ?_ | refine blk_alloc ?_ _)); exact BK399.out) Tryz.underlying64 rfl (by kernel_rfl) (.cell gb400 64 #[.bool t410, .slice Ao34 t411.length co34, .slice Ao35 t414.length co35] (0, 0) _ rfl (by (with_reducible repeat (first | refine blk_drewN ?_ _ | refine blk_drew ?_ | refine blk_alloc ?_ _)); refine blk_put (cs := #[.bool t410, .slice Ao34 t411.length co34, .slice none 0 0]) ?_ 2 _ rfl; (with_reducible repeat (first | refine blk_drewN ?_ _ | refine blk_drew ?_ | refine blk_alloc ?_ _)); refine blk_put (cs := #[.bool t410, .slice none 0 0, .slice none 0 0]) ?_ 1 _ rfl; (with_reducible repeat (first | refine blk_drewN ?_ _ | refine blk_drew ?_ | refine blk_alloc ?_ _)); refine blk_put (cs := #[.bool false, .slice none 0 0, .slice none 0 0]) ?_ 0 _ rfl; (with_reducible repeat (first | refine blk_drewN ?_ _ | refine blk_drew ?_ | refine blk_alloc ?_ _)); refine blk_far ?_ NB400_399.out _; (with_reducible repeat (first | refine blk_drewN ?_ _ | refine blk_drew ?_ | refine blk_alloc ?_ _)); refine blk_far ?_ NB400_399.out _; (with_reducible repeat (first | refine blk_drewN ?_ _ | refine blk_drew ?_ | refine blk_alloc ?_ _)); refine blk_far ?_ NB400_399.out _; (with_reducible repeat (first | refine blk_drewN ?_ _ | refine blk_drew ?_ | refine blk_alloc ?_ _)); exact BK400.out) Tryz.underlying64 rfl (by kernel_rfl) (.tmp .nil)))) rfl ?_
  exact ⟨_, _, _, _, by first | rfl | (simp [errW_none, errW_some] <;> rfl) | (simp [*, errW_none, errW_some] <;> rfl), by (with_reducible repeat (first | apply Kd.V_alloc | apply Kd.V_drewN | apply Kd.V_drew)); exact Kd.V_mono (Kd.V_far (p := ⟨gb400, 2, none⟩) (Kd.V_far (p := ⟨gb400, 1, none⟩) (Kd.V_far (p := ⟨gb400, 0, none⟩) (Kd.V_far (p := ⟨gb399, 2, none⟩) (Kd.V_far (p := ⟨gb399, 1, none⟩) (Kd.V_far (p := ⟨gb399, 0, none⟩) (Kd.V_mono (Kd.V_mono HO404.out (fun k_ hk => (⟨hk, hk.2.2.2.1⟩ : _ ∧ k_ ≠ gb399))) (fun k_ hk => (⟨hk, hk.1.2.2.2.2.1⟩ : _ ∧ k_ ≠ gb400))) (fun _ hk => hk.1.2) (.bool t401)) (fun _ hk => hk.1.2) (.slice Ao21 t402.length co21)) (fun _ hk => hk.1.2) (.slice Ao22 t405.length co22)) (fun _ hk => hk.2) (.bool t410)) (fun _ hk => hk.2) (.slice Ao34 t411.length co34)) (fun _ hk => hk.2) (.slice Ao35 t414.length co35)) (fun _ hk => hk.1.1.1), by (with_reducible repeat (first | apply Kd.V_alloc | apply Kd.V_drewN | apply Kd.V_drew)); exact Kd.V_mono (Kd.V_far (p := ⟨gb400, 2, none⟩) (Kd.V_far (p := ⟨gb400, 1, none⟩) (Kd.V_far (p := ⟨gb400, 0, none⟩) (Kd.V_far (p := ⟨gb399, 2, none⟩) (Kd.V_far (p := ⟨gb399, 1, none⟩) (Kd.V_far (p := ⟨gb399, 0, none⟩) (Kd.V_mono (Kd.V_mono HO407.out (fun k_ hk => (⟨hk, hk.2.2.2.1⟩ : _ ∧ k_ ≠ gb399))) (fun k_ hk => (⟨hk, hk.1.2.2.2.2.1⟩ : _ ∧ k_ ≠ gb400))) (fun _ hk => hk.1.2) (.bool t401)) (fun _ hk => hk.1.2) (.slice Ao21 t402.length co21)) (fun _ hk => hk.1.2) (.slice Ao22 t405.length co22)) (fun _ hk => hk.2) (.bool t410)) (fun _ hk => hk.2) (.slice Ao34 t411.length co34)) (fun _ hk => hk.2) (.slice Ao35 t414.length co35)) (fun _ hk => hk.1.1.1), by (with_reducible repeat (first | apply Kd.V_alloc | apply Kd.V_drewN | apply Kd.V_drew)); exact Kd.V_mono (Kd.V_far (p := ⟨gb400, 2, none⟩) (Kd.V_far (p := ⟨gb400, 1, none⟩) (Kd.V_far (p := ⟨gb400, 0, none⟩) (Kd.V_far (p := ⟨gb399, 2, none⟩) (Kd.V_far (p := ⟨gb399, 1, none⟩) (Kd.V_far (p := ⟨gb399, 0, none⟩) (Kd.V_mono (Kd.V_mono HO413.out (fun k_ hk => (⟨hk, hk.2.2.2.1⟩ : _ ∧ k_ ≠ gb399))) (fun k_ hk => (⟨hk, hk.1.2.2.2.2.1⟩ : _ ∧ k_ ≠ gb400))) (fun _ hk => hk.1.2) (.bool t401)) (fun _ hk => hk.1.2) (.slice Ao21 t402.length co21)) (fun _ hk => hk.1.2) (.slice Ao22 t405.length co22)) (fun _ hk => hk.2) (.bool t410)) (fun _ hk => hk.2) (.slice Ao34 t411.length co34)) (fun _ hk => hk.2) (.slice Ao35 t414.length co35)) (fun _ hk => hk.1.1.1), by (with_reducible repeat (first | apply Kd.V_alloc | apply Kd.V_drewN | apply Kd.V_drew)); exact Kd.V_mono (Kd.V_far (p := ⟨gb400, 2, none⟩) (Kd.V_far (p := ⟨gb400, 1, none⟩) (Kd.V_far (p := ⟨gb400, 0, none⟩) (Kd.V_far (p := ⟨gb399, 2, none⟩) (Kd.V_far (p := ⟨gb399, 1, none⟩) (Kd.V_far (p := ⟨gb399, 0, none⟩) (Kd.V_mono (Kd.V_mono HO416.out (fun k_ hk => (⟨hk, hk.2.2.2.1⟩ : _ ∧ k_ ≠ gb399))) (fun k_ hk => (⟨hk, hk.1.2.2.2.2.1⟩ : _ ∧ k_ ≠ gb400))) (fun _ hk => hk.1.2) (.bool t401)) (fun _ hk => hk.1.2) (.slice Ao21 t402.length co21)) (fun _ hk => hk.1.2) (.slice Ao22 t405.length co22)) (fun _ hk => hk.2) (.bool t410)) (fun _ hk => hk.2) (.slice Ao34 t411.length co34)) (fun _ hk => hk.2) (.slice Ao35 t414.length co35)) (fun _ hk => hk.1.1.1), bl HB.out⟩
 ·rw [if_neg c4] at H
  have c4b0 : (t408 == 0) = false := beq_eq_false_iff_ne.mpr c4
  have c4b1 : (t408 != 0) = true := bne_iff_ne.mpr c4
  simp only [Option.some.injEq, Prod.mk.injEq] at H
  obtain ⟨rfl, rfl, rfl, rfl, rfl, rfl, rfl⟩ := H
  go_enter Tryz.func80, Tryz.ntmps80
  try go_wp2_with (first | ((with_reducible refine gate_dst (N := 2) rfl ?_); refine box_event ?hg (N := 2) ?hd (cs := #[.string a0_0, .string a0_1]) (t := 30) ?hr ?_; (case hd => rfl); (case hg => rfl); (case hr => first | (go_simp; done) | (go_simp; rfl)); intro gb397 hg w44 hbox hb; have n0_ := Aside0.mk (below_step (bl HB.out) hb); have n1_ := Aside0.mk (hbox); have n2_ := Aside0.mk (szg hg (bl HB.out)); have n3_ := Aside0.mk (szg hg (bl HB.out)); clear HB; have HB := n0_; have BK397 := n1_; have GW397 := n2_; have GE397 := n3_; clear n0_ n1_ n2_ n3_; clear hb hbox hg) | ((with_reducible refine gate_dst (N := 3) rfl ?_); refine box_event ?hg (N := 3) ?hd (cs := #[.string a1_0, .string a1_1]) (t := 30) ?hr ?_; (case hd => rfl); (case hg => rfl); (case hr => first | (go_simp; done) | (go_simp; rfl)); intro gb398 hg w45 hbox hb; have n0_ := Aside0.mk (blk_below (bk BK397.out) hb); have n1_ := Aside0.mk (below_step (bl HB.out) hb); have n2_ := Aside0.mk (hbox); have n3_ := Aside0.mk (szg hg (bl HB.out)); have n4_ := Aside0.mk (szg hg (bl HB.out)); have n5_ := Aside0.mk (ntl hg (bk BK397.out)); have n6_ := Aside0.mk (ntg hg (bk BK397.out)); clear BK397; clear HB; have BK397 := n0_; have HB := n1_; have BK398 := n2_; have GW398 := n3_; have GE398 := n4_; have NB397_398 := n5_; have NB398_397 := n6_; clear n0_ n1_ n2_ n3_ n4_ n5_ n6_; clear hb hbox hg) | ((with_reducible refine gate_dst (N := 4) rfl ?_); refine box_event ?hg (N := 4) ?hd (cs := #[.bool false, .slice none 0 0, .slice none 0 0]) (t := 64) ?hr ?_; (case hd => rfl); (case hg => rfl); (case hr => first | (go_simp; done) | (go_simp; rfl)); intro gb399 hg w46 hbox hb; have n0_ := Aside0.mk (blk_below (bk BK397.out) hb); have n1_ := Aside0.mk (blk_below (bk BK398.out) hb); have n2_ := Aside0.mk (below_step (bl HB.out) hb); have n3_ := Aside0.mk (hbox); have n4_ := Aside0.mk (szg hg (bl HB.out)); have n5_ := Aside0.mk (szg hg (bl HB.out)); have n6_ := Aside0.mk (ntl hg (bk BK397.out)); have n7_ := Aside0.mk (ntg hg (bk BK397.out)); have n8_ := Aside0.mk (ntl hg (bk BK398.out)); have n9_ := Aside0.mk (ntg hg (bk BK398.out)); clear BK397; clear BK398; clear HB; have BK397 := n0_; have BK398 := n1_; have HB := n2_; have BK399 := n3_; have GW399 := n4_; have GE399 := n5_; have NB397_399 := n6_; have NB399_397 := n7_; have NB398_399 := n8_; have NB399_398 := n9_; clear n0_ n1_ n2_ n3_ n4_ n5_ n6_ n7_ n8_ n9_; clear hb hbox hg) | ((with_reducible refine gate_dst (N := 5) rfl ?_); refine box_event ?hg (N := 5) ?hd (cs := #[.bool false, .slice none 0 0, .slice none 0 0]) (t := 64) ?hr ?_; (case hd => rfl); (case hg => rfl); (case hr => first | (go_simp; done) | (go_simp; rfl)); intro gb400 hg w47 hbox hb; have n0_ := Aside0.mk (blk_below (bk BK397.out) hb); have n1_ := Aside0.mk (blk_below (bk BK398.out) hb); have n2_ := Aside0.mk (blk_below (bk BK399.out) hb); have n3_ := Aside0.mk (below_step (bl HB.out) hb); have n4_ := Aside0.mk (hbox); have n5_ := Aside0.mk (szg hg (bl HB.out)); have n6_ := Aside0.mk (szg hg (bl HB.out)); have n7_ := Aside0.mk (ntl hg (bk BK397.out)); have n8_ := Aside0.mk (ntg hg (bk BK397.out)); have n9_ := Aside0.mk (ntl hg (bk BK398.out)); have n10_ := Aside0.mk (ntg hg (bk BK398.out)); have n11_ := Aside0.mk (ntl hg (bk BK399.out)); have n12_ := Aside0.mk (ntg hg (bk BK399.out)); clear BK397; clear BK398; clear BK399; clear HB; have BK397 := n0_; have BK398 := n1_; have BK399 := n2_; have HB := n3_; have BK400 := n4_; have GW400 := n5_; have GE400 := n6_; have NB397_400 := n7_; have NB400_397 := n8_; have NB398_400 := n9_; have NB400_398 := n10_; have NB399_400 := n11_; have NB400_399 := n12_; clear n0_ n1_ n2_ n3_ n4_ n5_ n6_ n7_ n8_ n9_ n10_ n11_ n12_; clear hb hbox hg; have hnb48 := NB397_398.out; have hnc48 := NB398_397.out; have hnb49 := NB397_399.out; have hnc49 := NB399_397.out; have hnb50 := NB397_400.out; have hnc50 := NB400_397.out; have hcz51_0 : w47.cell? ⟨gb397, 0, none⟩ = some (.string a0_0) := (blk_cell BK397.out 0).trans rfl; have hcz51_1 : w47.cell? ⟨gb397, 1, none⟩ = some (.string a0_1) := (blk_cell BK397.out 1).trans rfl; have hfz51_0 := blk_frozen BK397.out 0; have hfz51_1 := blk_frozen BK397.out 1) | ((with_reducible refine gate_callee (f := 31) rfl ?_); refine goesL_ (some 12) rfl rfl Tryz.func31 (by kernel_rfl) rfl #[.agg #[.string a0_0, .string a0_1]] rfl (by (try simp only [List.map_toArray, List.map_cons, List.map_nil]); first | done | rfl | (simp only [List.length_drop, List.length_take]; rfl)) ?_; (with_reducible refine (exact_read.calls k a0_0 a0_1 t401 t402 t405 t408 _ ?side1 A3.out).mono ?_); (case side1 => first | exact hGl | exact gl_below hGl (bl HB.out)); rintro e w52 ⟨v403, v406, rfl, ho0, ho1, hb⟩; refine ⟨_, rfl, ?_⟩; have n0_ := Aside0.mk (Kd.V_lower (Kd.V_mono (ok' := fun k_ => (w.heap.size ≤ k_) ∧ k_ ≠ gb397 ∧ k_ ≠ gb398 ∧ k_ ≠ gb399 ∧ k_ ≠ gb400) ho0 (fun k_ hk_ => ⟨(Nat.le_trans (below_size (bl HB.out)) hk_), (Kd.freshB (bk BK397.out) k_ hk_), (Kd.freshB (bk BK398.out) k_ hk_), (Kd.freshB (bk BK399.out) k_ hk_), (Kd.freshB (bk BK400.out) k_ hk_)⟩)) (below_size (bl HB.out))); have n1_ := Aside0.mk (Kd.V_lower (Kd.V_mono (ok' := fun k_ => (w.heap.size ≤ k_) ∧ k_ ≠ gb397 ∧ k_ ≠ gb398 ∧ k_ ≠ gb399 ∧ k_ ≠ gb400) ho1 (fun k_ hk_ => ⟨(Nat.le_trans (below_size (bl HB.out)) hk_), (Kd.freshB (bk BK397.out) k_ hk_), (Kd.freshB (bk BK398.out) k_ hk_), (Kd.freshB (bk BK399.out) k_ hk_), (Kd.freshB (bk BK400.out) k_ hk_)⟩)) (below_size (bl HB.out))); have n2_ := Aside0.mk (blk_below (bk BK397.out) hb); have n3_ := Aside0.mk (blk_below (bk BK398.out) hb); have n4_ := Aside0.mk (blk_below (bk BK399.out) hb); have n5_ := Aside0.mk (blk_below (bk BK400.out) hb); have n6_ := Aside0.mk (below_step (bl HB.out) hb); clear BK397; clear BK398; clear BK399; clear BK400; clear HB; have HO404 := n0_; have HO407 := n1_; have BK397 := n2_; have BK398 := n3_; have BK399 := n4_; have BK400 := n5_; have HB := n6_; clear n0_ n1_ n2_ n3_ n4_ n5_ n6_; (try clear hb); (try clear hb2); (try clear hk); (try clear hi); (try clear ho0); (try clear ho1)) | ((with_reducible refine gate_dst (N := 7) rfl ?_); refine box_event ?hg (N := 7) ?hd (cs := #[.bool false, .slice none 0 0, .slice none 0 0]) (t := 64) ?hr ?_; (case hd => rfl); (case hg => rfl); (case hr => first | (go_simp; done) | (go_simp; rfl)); intro gb409 hg w53 hbox hb; have n0_ := Aside0.mk (Kd.V_below (Kd.V_elderB (vl HO404.out) gb409 (Nat.le_of_eq hg.symm)) hb); have n1_ := Aside0.mk (Kd.V_below (Kd.V_elderB (vl HO407.out) gb409 (Nat.le_of_eq hg.symm)) hb); have n2_ := Aside0.mk (blk_below (bk BK397.out) hb); have n3_ := Aside0.mk (blk_below (bk BK398.out) hb); have n4_ := Aside0.mk (blk_below (bk BK399.out) hb); have n5_ := Aside0.mk (blk_below (bk BK400.out) hb); have n6_ := Aside0.mk (below_step (bl HB.out) hb); have n7_ := Aside0.mk (hbox); have n8_ := Aside0.mk (szg hg (bl HB.out)); have n9_ := Aside0.mk (szg hg (bl HB.out)); have n10_ := Aside0.mk (ntl hg (bk BK397.out)); have n11_ := Aside0.mk (ntg hg (bk BK397.out)); have n12_ := Aside0.mk (ntl hg (bk BK398.out)); have n13_ := Aside0.mk (ntg hg (bk BK398.out)); have n14_ := Aside0.mk (ntl hg (bk BK399.out)); have n15_ := Aside0.mk (ntg hg (bk BK399.out)); have n16_ := Aside0.mk (ntl hg (bk BK400.out)); have n17_ := Aside0.mk (ntg hg (bk BK400.out)); clear HO404; clear HO407; clear BK397; clear BK398; clear BK399; clear BK400; clear HB; have HO404 := n0_; have HO407 := n1_; have BK397 := n2_; have BK398 := n3_; have BK399 := n4_; have BK400 := n5_; have HB := n6_; have BK409 := n7_; have GW409 := n8_; have GE409 := n9_; have NB397_409 := n10_; have NB409_397 := n11_; have NB398_409 := n12_; have NB409_398 := n13_; have NB399_409 := n14_; have NB409_399 := n15_; have NB400_409 := n16_; have NB409_400 := n17_; clear n0_ n1_ n2_ n3_ n4_ n5_ n6_ n7_ n8_ n9_ n10_ n11_ n12_ n13_ n14_ n15_ n16_ n17_; clear hb hbox hg; have hnb54 := NB409_397.out; have hnc54 := NB397_409.out; have hnb55 := NB409_398.out; have hnc55 := NB398_409.out; have hnb56 := NB409_399.out; have hnc56 := NB399_409.out; have hnb57 := NB409_400.out; have hnc57 := NB400_409.out; have hcz58_0 : w53.cell? ⟨gb409, 0, none⟩ = some (.bool false) := (blk_cell BK409.out 0).trans rfl; have hcz58_1 : w53.cell? ⟨gb409, 1, none⟩ = some (.slice none 0 0) := (blk_cell BK409.out 1).trans rfl; have hcz58_2 : w53.cell? ⟨gb409, 2, none⟩ = some (.slice none 0 0) := (blk_cell BK409.out 2).trans rfl; have hfz58_0 := blk_frozen BK409.out 0; have hfz58_1 := blk_frozen BK409.out 1; have hfz58_2 := blk_frozen BK409.out 2; obtain ⟨Ao59, co59, eo59⟩ := Kd.V_slice HO404.out; subst eo59; obtain ⟨Ao60, co60, eo60⟩ := Kd.V_slice HO407.out; subst eo60))
  have n0_ : Aside0 (Kd.V (Kd.int .u32) 69 (((w53.setCell ⟨gb409, 0, none⟩ (.bool t401)).setCell ⟨gb409, 1, none⟩ (.slice Ao59 t402.length co59)).setCell ⟨gb409, 2, none⟩ (.slice Ao60 t405.length co60)) w.heap.size (fun k_ => (w.heap.size ≤ k_) ∧ k_ ≠ gb397 ∧ k_ ≠ gb398 ∧ k_ ≠ gb399 ∧ k_ ≠ gb400 ∧ k_ ≠ gb409) (.slice Ao59 t402.length co59) t402) := ⟨by (with_reducible repeat (first | apply Kd.V_alloc | apply Kd.V_drewN | apply Kd.V_drew)); exact Kd.V_mono (Kd.V_far (p := ⟨gb409, 2, none⟩) (Kd.V_far (p := ⟨gb409, 1, none⟩) (Kd.V_far (p := ⟨gb409, 0, none⟩) (Kd.V_mono HO404.out (fun k_ hk => (⟨hk, hk.2⟩ : _ ∧ k_ ≠ gb409))) (fun _ hk => hk.2) (.bool t401)) (fun _ hk => hk.2) (.slice Ao59 t402.length co59)) (fun _ hk => hk.2) (.slice Ao60 t405.length co60)) (fun _ hk => ⟨hk.1.1.1, ⟨hk.1.1.2.1, ⟨hk.1.1.2.2.1, ⟨hk.1.1.2.2.2.1, ⟨hk.1.1.2.2.2.2, hk.1.2⟩⟩⟩⟩⟩)⟩
  have n1_ : Aside0 (Kd.V (Kd.int .u32) 69 (((w53.setCell ⟨gb409, 0, none⟩ (.bool t401)).setCell ⟨gb409, 1, none⟩ (.slice Ao59 t402.length co59)).setCell ⟨gb409, 2, none⟩ (.slice Ao60 t405.length co60)) w.heap.size (fun k_ => (w.heap.size ≤ k_) ∧ k_ ≠ gb397 ∧ k_ ≠ gb398 ∧ k_ ≠ gb399 ∧ k_ ≠ gb400 ∧ k_ ≠ gb409) (.slice Ao60 t405.length co60) t405) := ⟨by (with_reducible repeat (first | apply Kd.V_alloc | apply Kd.V_drewN | apply Kd.V_drew)); exact Kd.V_mono (Kd.V_far (p := ⟨gb409, 2, none⟩) (Kd.V_far (p := ⟨gb409, 1, none⟩) (Kd.V_far (p := ⟨gb409, 0, none⟩) (Kd.V_mono HO407.out (fun k_ hk => (⟨hk, hk.2⟩ : _ ∧ k_ ≠ gb409))) (fun _ hk => hk.2) (.bool t401)) (fun _ hk => hk.2) (.slice Ao59 t402.length co59)) (fun _ hk => hk.2) (.slice Ao60 t405.length co60)) (fun _ hk => ⟨hk.1.1.1, ⟨hk.1.1.2.1, ⟨hk.1.1.2.2.1, ⟨hk.1.1.2.2.2.1, ⟨hk.1.1.2.2.2.2, hk.1.2⟩⟩⟩⟩⟩)⟩
  have n2_ : Aside0 ((((w53.setCell ⟨gb409, 0, none⟩ (.bool t401)).setCell ⟨gb409, 1, none⟩ (.slice Ao59 t402.length co59)).setCell ⟨gb409, 2, none⟩ (.slice Ao60 t405.length co60)).heap[gb397]? = some (.cells #[.string a0_0, .string a0_1] 30 (0, 0))) := ⟨bf BK397.out⟩
  have n3_ : Aside0 ((((w53.setCell ⟨gb409, 0, none⟩ (.bool t401)).setCell ⟨gb409, 1, none⟩ (.slice Ao59 t402.length co59)).setCell ⟨gb409, 2, none⟩ (.slice Ao60 t405.length co60)).heap[gb398]? = some (.cells #[.string a1_0, .string a1_1] 30 (0, 0))) := ⟨bf BK398.out⟩
  have n4_ : Aside0 ((((w53.setCell ⟨gb409, 0, none⟩ (.bool t401)).setCell ⟨gb409, 1, none⟩ (.slice Ao59 t402.length co59)).setCell ⟨gb409, 2, none⟩ (.slice Ao60 t405.length co60)).heap[gb399]? = some (.cells #[.bool false, .slice none 0 0, .slice none 0 0] 64 (0, 0))) := ⟨bf BK399.out⟩
  have n5_ : Aside0 ((((w53.setCell ⟨gb409, 0, none⟩ (.bool t401)).setCell ⟨gb409, 1, none⟩ (.slice Ao59 t402.length co59)).setCell ⟨gb409, 2, none⟩ (.slice Ao60 t405.length co60)).heap[gb400]? = some (.cells #[.bool false, .slice none 0 0, .slice none 0 0] 64 (0, 0))) := ⟨bf BK400.out⟩
  have n6_ : Aside0 ((((w53.setCell ⟨gb409, 0, none⟩ (.bool t401)).setCell ⟨gb409, 1, none⟩ (.slice Ao59 t402.length co59)).setCell ⟨gb409, 2, none⟩ (.slice Ao60 t405.length co60)).heap[gb409]? = some (.cells #[.bool t401, .slice Ao59 t402.length co59, .slice Ao60 t405.length co60] 64 (0, 0))) := ⟨by (with_reducible repeat (first | refine blk_drewN ?_ _ | refine blk_drew ?_ | refine blk_alloc ?_ _)); refine blk_put (cs := #[.bool t401, .slice Ao59 t402.length co59, .slice none 0 0]) ?_ 2 _ rfl; (with_reducible repeat (first | refine blk_drewN ?_ _ | refine blk_drew ?_ | refine blk_alloc ?_ _)); refine blk_put (cs := #[.bool t401, .slice none 0 0, .slice none 0 0]) ?_ 1 _ rfl; (with_reducible repeat (first | refine blk_drewN ?_ _ | refine blk_drew ?_ | refine blk_alloc ?_ _)); refine blk_put (cs := #[.bool false, .slice none 0 0, .slice none 0 0]) ?_ 0 _ rfl; (with_reducible repeat (first | refine blk_drewN ?_ _ | refine blk_drew ?_ | refine blk_alloc ?_ _)); exact BK409.out⟩
  have n7_ : Aside0 (Below w.heap.size w (((w53.setCell ⟨gb409, 0, none⟩ (.bool t401)).setCell ⟨gb409, 1, none⟩ (.slice Ao59 t402.length co59)).setCell ⟨gb409, 2, none⟩ (.slice Ao60 t405.length co60))) := ⟨bl HB.out⟩
  (try clear HO404)
  (try clear HO407)
  (try clear BK397)
  (try clear BK398)
  (try clear BK399)
  (try clear BK400)
  (try clear BK409)
  (try clear HB)
  generalize (((w53.setCell ⟨gb409, 0, none⟩ (.bool t401)).setCell ⟨gb409, 1, none⟩ (.slice Ao59 t402.length co59)).setCell ⟨gb409, 2, none⟩ (.slice Ao60 t405.length co60)) = w61 at n0_ n1_ n2_ n3_ n4_ n5_ n6_ n7_ ⊢
  have HO404 := n0_
  have HO407 := n1_
  have BK397 := n2_
  have BK398 := n3_
  have BK399 := n4_
  have BK400 := n5_
  have BK409 := n6_
  have HB := n7_
  clear n0_ n1_ n2_ n3_ n4_ n5_ n6_ n7_
  have n0_ := Aside0.mk (Kd.V_drew HO404.out)
  have n1_ := Aside0.mk (Kd.V_drew HO407.out)
  have n2_ := Aside0.mk (blk_drew BK397.out)
  have n3_ := Aside0.mk (blk_drew BK398.out)
  have n4_ := Aside0.mk (blk_drew BK399.out)
  have n5_ := Aside0.mk (blk_drew BK400.out)
  have n6_ := Aside0.mk (blk_drew BK409.out)
  have n7_ := Aside0.mk (below_drew1 HB.out)
  clear HO404
  clear HO407
  clear BK397
  clear BK398
  clear BK399
  clear BK400
  clear BK409
  clear HB
  have HO404 := n0_
  have HO407 := n1_
  have BK397 := n2_
  have BK398 := n3_
  have BK399 := n4_
  have BK400 := n5_
  have BK409 := n6_
  have HB := n7_
  clear n0_ n1_ n2_ n3_ n4_ n5_ n6_ n7_
  refine start_ (n := 6) (S := fun w' => w'.cell? ⟨gb409, 0, none⟩ = some (.bool t401) ∧ w'.cell? ⟨gb409, 1, none⟩ = some (.slice Ao59 t402.length co59) ∧ w'.cell? ⟨gb409, 2, none⟩ = some (.slice Ao60 t405.length co60)) (ds := []) #[false, false, false, false, false, false] (by kernel_rfl) rfl rfl ⟨(blk_cell BK409.out 0).trans rfl, (blk_cell BK409.out 1).trans rfl, (blk_cell BK409.out 2).trans rfl⟩ (fun hHeld => ?_)
  generalize w61.drew = w62 at HO404 HO407 BK397 BK398 BK399 BK400 BK409 HB hHeld ⊢
  refine pure_ (i := 2) (N := some 19) (v := ?_) (a' := ?_) #[false, false, true, false, false, false] rfl rfl (by kernel_rfl) (fun _ _ _ h => h) (Or.inl ⟨by rfl, ?_⟩) ?_ ?_
  rotate_left
  ·intro w'
   go_simp
   with_reducible rfl
  rotate_left
  ·simp only [Act.put, List.setIfInBounds_toArray, List.set_cons_zero, List.set_cons_succ, i64_w, i32_w]
   rfl
  refine take_ (i := 0) (N := some 17) (v := ?_) (a' := ?_) #[true, false, true, false, false, false] rfl rfl (by kernel_rfl) (fun _ _ _ h => h) (Or.inl ⟨by rfl, ?_⟩) hHeld ?_ ?_
  rotate_left
  ·rintro w' ⟨s0, s1, s2⟩
   go_simp
   with_reducible rfl
  rotate_left
  ·simp only [Act.put, List.setIfInBounds_toArray, List.set_cons_zero, List.set_cons_succ, i64_w, i32_w]
   rfl
  refine take_ (i := 1) (N := some 18) (v := ?_) (a' := ?_) #[true, true, true, false, false, false] rfl rfl (by kernel_rfl) (fun _ _ _ h => h) (Or.inl ⟨by rfl, ?_⟩) hHeld ?_ ?_
  rotate_left
  ·rintro w' ⟨s0, s1, s2⟩
   go_simp
   with_reducible rfl
  rotate_left
  ·simp only [Act.put, List.setIfInBounds_toArray, List.set_cons_zero, List.set_cons_succ, i64_w, i32_w]
   rfl
  refine one_ (i := 3) (N := none) #[true, true, true, true, false, false] rfl rfl (by kernel_rfl) (by decide) (fun K hK => ?_)
  have hs63 : w62.cell? ⟨gb399, 0, none⟩ = some (.bool false) := (blk_cell BK399.out 0).trans rfl
  have hfs63 := blk_frozen BK399.out 0
  have hns63_0 := NB397_399.out
  have hns63_1 := NB398_399.out
  have hns63_3 := NB400_399.out
  have hns63_4 := NB409_399.out
  have hms63_0 := NB399_397.out
  have hms63_1 := NB399_398.out
  have hms63_3 := NB399_400.out
  have hms63_4 := NB399_409.out
  have hs64 : w62.cell? ⟨gb399, 1, none⟩ = some (.slice none 0 0) := (blk_cell BK399.out 1).trans rfl
  have hfs64 := blk_frozen BK399.out 1
  have hns64_0 := NB397_399.out
  have hns64_1 := NB398_399.out
  have hns64_3 := NB400_399.out
  have hns64_4 := NB409_399.out
  have hms64_0 := NB399_397.out
  have hms64_1 := NB399_398.out
  have hms64_3 := NB399_400.out
  have hms64_4 := NB399_409.out
  have hs65 : w62.cell? ⟨gb399, 2, none⟩ = some (.slice none 0 0) := (blk_cell BK399.out 2).trans rfl
  have hfs65 := blk_frozen BK399.out 2
  have hns65_0 := NB397_399.out
  have hns65_1 := NB398_399.out
  have hns65_3 := NB400_399.out
  have hns65_4 := NB409_399.out
  have hms65_0 := NB399_397.out
  have hms65_1 := NB399_398.out
  have hms65_3 := NB399_400.out
  have hms65_4 := NB399_409.out
  refine skip_ (w1 := ?_) (by rfl) rfl ?_ ?_
  rotate_left
  ·go_simp
   rfl
  refine hK.out _ _ ⟨((cell_far (p := ⟨gb399, _, none⟩) NB409_399.out _).trans (((cell_far (p := ⟨gb399, _, none⟩) NB409_399.out _).trans (((cell_far (p := ⟨gb399, _, none⟩) NB409_399.out _).trans (hHeld.1)))))), ((cell_far (p := ⟨gb399, _, none⟩) NB409_399.out _).trans (((cell_far (p := ⟨gb399, _, none⟩) NB409_399.out _).trans (((cell_far (p := ⟨gb399, _, none⟩) NB409_399.out _).trans (hHeld.2.1)))))), ((cell_far (p := ⟨gb399, _, none⟩) NB409_399.out _).trans (((cell_far (p := ⟨gb399, _, none⟩) NB409_399.out _).trans (((cell_far (p := ⟨gb399, _, none⟩) NB409_399.out _).trans (hHeld.2.2))))))⟩ (fun hHeld => ?_)
  clear hK K
  refine one_ (i := 4) (N := none) #[true, true, true, true, true, false] rfl rfl (by kernel_rfl) (by decide) (fun K hK => ?_)
  have hs66 : w62.cell? ⟨gb400, 0, none⟩ = some (.bool false) := (blk_cell BK400.out 0).trans rfl
  have hfs66 := blk_frozen BK400.out 0
  have hns66_0 := NB397_400.out
  have hns66_1 := NB398_400.out
  have hns66_2 := NB399_400.out
  have hns66_4 := NB409_400.out
  have hms66_0 := NB400_397.out
  have hms66_1 := NB400_398.out
  have hms66_2 := NB400_399.out
  have hms66_4 := NB400_409.out
  have hs67 : w62.cell? ⟨gb400, 1, none⟩ = some (.slice none 0 0) := (blk_cell BK400.out 1).trans rfl
  have hfs67 := blk_frozen BK400.out 1
  have hns67_0 := NB397_400.out
  have hns67_1 := NB398_400.out
  have hns67_2 := NB399_400.out
  have hns67_4 := NB409_400.out
  have hms67_0 := NB400_397.out
  have hms67_1 := NB400_398.out
  have hms67_2 := NB400_399.out
  have hms67_4 := NB400_409.out
  have hs68 : w62.cell? ⟨gb400, 2, none⟩ = some (.slice none 0 0) := (blk_cell BK400.out 2).trans rfl
  have hfs68 := blk_frozen BK400.out 2
  have hns68_0 := NB397_400.out
  have hns68_1 := NB398_400.out
  have hns68_2 := NB399_400.out
  have hns68_4 := NB409_400.out
  have hms68_0 := NB400_397.out
  have hms68_1 := NB400_398.out
  have hms68_2 := NB400_399.out
  have hms68_4 := NB400_409.out
  refine skip_ (w1 := ?_) (by rfl) rfl ?_ ?_
  rotate_left
  ·go_simp
   rfl
  refine hK.out _ _ ⟨((cell_far (p := ⟨gb400, _, none⟩) NB409_400.out _).trans (((cell_far (p := ⟨gb400, _, none⟩) NB409_400.out _).trans (((cell_far (p := ⟨gb400, _, none⟩) NB409_400.out _).trans (hHeld.1)))))), ((cell_far (p := ⟨gb400, _, none⟩) NB409_400.out _).trans (((cell_far (p := ⟨gb400, _, none⟩) NB409_400.out _).trans (((cell_far (p := ⟨gb400, _, none⟩) NB409_400.out _).trans (hHeld.2.1)))))), ((cell_far (p := ⟨gb400, _, none⟩) NB409_400.out _).trans (((cell_far (p := ⟨gb400, _, none⟩) NB409_400.out _).trans (((cell_far (p := ⟨gb400, _, none⟩) NB409_400.out _).trans (hHeld.2.2))))))⟩ (fun hHeld => ?_)
  clear hK K
  refine pure_ (i := 5) (N := some 6) (v := ?_) (a' := ?_) #[true, true, true, true, true, true] rfl rfl (by kernel_rfl) (fun _ _ _ h => h) (Or.inl ⟨by rfl, ?_⟩) ?_ ?_
  rotate_left
  ·intro w'
   go_simp
   with_reducible rfl
  rotate_left
  ·simp only [Act.put, List.setIfInBounds_toArray, List.set_cons_zero, List.set_cons_succ, i64_w, i32_w]
   rfl
  refine done_ (by kernel_rfl) ?_
  try go_wp2
  refine bodyPost_ret (results_list (rs := [.cell 4 64, .cell 5 64, .tmp 6]) rfl (by simp) (.cell gb399 64 #[.bool t401, .slice Ao59 t402.length co59, .slice Ao60 t405.length co60] (0, 0) _ rfl (by (with_reducible repeat (first | refine blk_drewN ?_ _ | refine blk_drew ?_ | refine blk_alloc ?_ _)); refine blk_far ?_ NB399_400.out _; (with_reducible repeat (first | refine blk_drewN ?_ _ | refine blk_drew ?_ | refine blk_alloc ?_ _)); refine blk_far ?_ NB399_400.out _; (with_reducible repeat (first | refine blk_drewN ?_ _ | refine blk_drew ?_ | refine blk_alloc ?_ _)); refine blk_far ?_ NB399_400.out _; (with_reducible repeat (first | refine blk_drewN ?_ _ | refine blk_drew ?_ | refine blk_alloc ?_ _)); refine blk_put (cs := #[.bool t401, .slice Ao59 t402.length co59, .slice none 0 0]) ?_ 2 _ rfl; (with_reducible repeat (first | refine blk_drewN ?_ _ | refine blk_drew ?_ | refine blk_alloc ?_ _)); refine blk_put (cs := #[.bool t401, .slice none 0 0, .slice none 0 0]) ?_ 1 _ rfl; (with_reducible repeat (first | refine blk_drewN ?_ _ | refine blk_drew ?_ | refine blk_alloc ?_ _)); refine blk_put (cs := #[.bool false, .slice none 0 0, .slice none 0 0]) ?_ 0 _ rfl; (with_reducible repeat (first | refine blk_drewN ?_ _ | refine blk_drew ?_ | refine blk_alloc ?_ _)); exact BK399.out) Tryz.underlying64 rfl (by kernel_rfl) (.cell gb400 64 #[.bool t401, .slice Ao59 t402.length co59, .slice Ao60 t405.length co60] (0, 0) _ rfl (by (with_reducible repeat (first | refine blk_drewN ?_ _ | refine blk_drew ?_ | refine blk_alloc ?_ _)); refine blk_put (cs := #[.bool t401, .slice Ao59 t402.length co59, .slice none 0 0]) ?_ 2 _ rfl; (with_reducible repeat (first | refine blk_drewN ?_ _ | refine blk_drew ?_ | refine blk_alloc ?_ _)); refine blk_put (cs := #[.bool t401, .slice none 0 0, .slice none 0 0]) ?_ 1 _ rfl; (with_reducible repeat (first | refine blk_drewN ?_ _ | refine blk_drew ?_ | refine blk_alloc ?_ _)); refine blk_put (cs := #[.bool false, .slice none 0 0, .slice none 0 0]) ?_ 0 _ rfl; (with_reducible repeat (first | refine blk_drewN ?_ _ | refine blk_drew ?_ | refine blk_alloc ?_ _)); refine blk_far ?_ NB400_399.out _; (with_reducible repeat (first | refine blk_drewN ?_ _ | refine blk_drew ?_ | refine blk_alloc ?_ _)); refine blk_far ?_ NB400_399.out _; (with_reducible repeat (first | refine blk_drewN ?_ _ | refine blk_drew ?_ | refine blk_alloc ?_ _)); refine blk_far ?_ NB400_399.out _; (with_reducible repeat (first | refine blk_drewN ?_ _ | refine blk_drew ?_ | refine blk_alloc ?_ _)); exact BK400.out) Tryz.underlying64 rfl (by kernel_rfl) (.tmp .nil)))) rfl ?_
  exact ⟨_, _, _, _, by first | rfl | (simp [errW_none, errW_some] <;> rfl) | (simp [*, errW_none, errW_some] <;> rfl), by (with_reducible repeat (first | apply Kd.V_alloc | apply Kd.V_drewN | apply Kd.V_drew)); exact Kd.V_mono (Kd.V_far (p := ⟨gb400, 2, none⟩) (Kd.V_far (p := ⟨gb400, 1, none⟩) (Kd.V_far (p := ⟨gb400, 0, none⟩) (Kd.V_far (p := ⟨gb399, 2, none⟩) (Kd.V_far (p := ⟨gb399, 1, none⟩) (Kd.V_far (p := ⟨gb399, 0, none⟩) (Kd.V_mono (Kd.V_mono HO404.out (fun k_ hk => (⟨hk, hk.2.2.2.1⟩ : _ ∧ k_ ≠ gb399))) (fun k_ hk => (⟨hk, hk.1.2.2.2.2.1⟩ : _ ∧ k_ ≠ gb400))) (fun _ hk => hk.1.2) (.bool t401)) (fun _ hk => hk.1.2) (.slice Ao59 t402.length co59)) (fun _ hk => hk.1.2) (.slice Ao60 t405.length co60)) (fun _ hk => hk.2) (.bool t401)) (fun _ hk => hk.2) (.slice Ao59 t402.length co59)) (fun _ hk => hk.2) (.slice Ao60 t405.length co60)) (fun _ hk => hk.1.1.1), by (with_reducible repeat (first | apply Kd.V_alloc | apply Kd.V_drewN | apply Kd.V_drew)); exact Kd.V_mono (Kd.V_far (p := ⟨gb400, 2, none⟩) (Kd.V_far (p := ⟨gb400, 1, none⟩) (Kd.V_far (p := ⟨gb400, 0, none⟩) (Kd.V_far (p := ⟨gb399, 2, none⟩) (Kd.V_far (p := ⟨gb399, 1, none⟩) (Kd.V_far (p := ⟨gb399, 0, none⟩) (Kd.V_mono (Kd.V_mono HO407.out (fun k_ hk => (⟨hk, hk.2.2.2.1⟩ : _ ∧ k_ ≠ gb399))) (fun k_ hk => (⟨hk, hk.1.2.2.2.2.1⟩ : _ ∧ k_ ≠ gb400))) (fun _ hk => hk.1.2) (.bool t401)) (fun _ hk => hk.1.2) (.slice Ao59 t402.length co59)) (fun _ hk => hk.1.2) (.slice Ao60 t405.length co60)) (fun _ hk => hk.2) (.bool t401)) (fun _ hk => hk.2) (.slice Ao59 t402.length co59)) (fun _ hk => hk.2) (.slice Ao60 t405.length co60)) (fun _ hk => hk.1.1.1), by (with_reducible repeat (first | apply Kd.V_alloc | apply Kd.V_drewN | apply Kd.V_drew)); exact Kd.V_mono (Kd.V_far (p := ⟨gb400, 2, none⟩) (Kd.V_far (p := ⟨gb400, 1, none⟩) (Kd.V_far (p := ⟨gb400, 0, none⟩) (Kd.V_far (p := ⟨gb399, 2, none⟩) (Kd.V_far (p := ⟨gb399, 1, none⟩) (Kd.V_far (p := ⟨gb399, 0, none⟩) (Kd.V_mono (Kd.V_mono HO404.out (fun k_ hk => (⟨hk, hk.2.2.2.1⟩ : _ ∧ k_ ≠ gb399))) (fun k_ hk => (⟨hk, hk.1.2.2.2.2.1⟩ : _ ∧ k_ ≠ gb400))) (fun _ hk => hk.1.2) (.bool t401)) (fun _ hk => hk.1.2) (.slice Ao59 t402.length co59)) (fun _ hk => hk.1.2) (.slice Ao60 t405.length co60)) (fun _ hk => hk.2) (.bool t401)) (fun _ hk => hk.2) (.slice Ao59 t402.length co59)) (fun _ hk => hk.2) (.slice Ao60 t405.length co60)) (fun _ hk => hk.1.1.1), by (with_reducible repeat (first | apply Kd.V_alloc | apply Kd.V_drewN | apply Kd.V_drew)); exact Kd.V_mono (Kd.V_far (p := ⟨gb400, 2, none⟩) (Kd.V_far (p := ⟨gb400, 1, none⟩) (Kd.V_far (p := ⟨gb400, 0, none⟩) (Kd.V_far (p := ⟨gb399, 2, none⟩) (Kd.V_far (p := ⟨gb399, 1, none⟩) (Kd.V_far (p := ⟨gb399, 0, none⟩) (Kd.V_mono (Kd.V_mono HO407.out (fun k_ hk => (⟨hk, hk.2.2.2.1⟩ : _ ∧ k_ ≠ gb399))) (fun k_ hk => (⟨hk, hk.1.2.2.2.2.1⟩ : _ ∧ k_ ≠ gb400))) (fun _ hk => hk.1.2) (.bool t401)) (fun _ hk => hk.1.2) (.slice Ao59 t402.length co59)) (fun _ hk => hk.1.2) (.slice Ao60 t405.length co60)) (fun _ hk => hk.2) (.bool t401)) (fun _ hk => hk.2) (.slice Ao59 t402.length co59)) (fun _ hk => hk.2) (.slice Ao60 t405.length co60)) (fun _ hk => hk.1.1.1), bl HB.out⟩
end Go.Proofs.YtckfdhnimmaeiaaGreatDoor.Pr
