-- Written by a program of this session (wip/tools) for this claim.
import Derived.Test.YtckfdhnimmaeiaaGreatDoorPrx0
import Derived.Test.YtckfdhnimmaeiaaGreatDoorV
import Derived.Test.YtckfdhnimmaeiaaGreatDoorPrx2
import Derived.Test.YtckfdhnimmaeiaaGreatDoorPrx4
import Derived.Test.YtckfdhnimmaeiaaGreatDoorPrx5
namespace Go.Proofs.YtckfdhnimmaeiaaGreatDoor.Pr
open Go.RowKit Go.Proofs.YtckfdhnimmaeiaaGreatDoorW.PrintWords Go.Proofs.YtckfdhnimmaeiaaGreatDoorW.PrintLast Go.Proofs.YtckfdhnimmaeiaaGreatDoorW.PrintMore
attribute [local go_sem] max2_int min2_int max_two min_two max_three min_three max_four min_four   -- for this text's walks alone
set_option linter.unusedVariables false
set_option linter.unusedSimpArgs false
/-! ### exact_Parse: function 22 -/
mutual
def exact_Parse.j0 : Nat → ByteArray → Bool → ByteArray → ByteArray → Option (ByteArray × ByteArray × Int)
  | 0, _, _, _, _ => none
  | k + 1, x4, x5, x6, x7 => (exact_exponent.f k x4).bind fun bt250 => (if x6.toList = ([] : List UInt8) then (exact_Parse.j1 k x5 x6 x7 bt250.1 true) else (exact_Parse.j1 k x5 x6 x7 bt250.1 (!bt250.2)))
def exact_Parse.j1 : Nat → Bool → ByteArray → ByteArray → Int → Bool → Option (ByteArray × ByteArray × Int)
  | 0, _, _, _, _, _ => none
  | k + 1, x5, x6, x7, x10, x51 => if x51 = true then (some ((⟨#[]⟩ : ByteArray), (⟨#[]⟩ : ByteArray), 10)) else (if x6.size + x7.size ≤ 9223372036854775807 then ((exact_parse.f k (x6 ++ x7)).bind fun t252 => (if (wrap64 (x10 - (x7.size : Int))) < 0 then ((exact_ten.f k (wrap64 (-(wrap64 (x10 - (x7.size : Int)))))).bind fun t259 => ((exact_number_write.f k x5 t252 t259).bind fun bt262 => (some (bt262.1, bt262.2.1, bt262.2.2)))) else ((exact_ten.f k (wrap64 (x10 - (x7.size : Int)))).bind fun t265 => ((exact_nat_times.f k t252 t265).bind fun t268 => ((exact_number_write.f k x5 t268 (([1] : List Int))).bind fun bt271 => (some (bt271.1, bt271.2.1, bt271.2.2))))))) else (none))
end
def exact_Parse.f (k : Nat) (a0 : ByteArray) : Option (ByteArray × ByteArray × Int) := if (a0.size : Int) > 1000 then (some ((⟨#[]⟩ : ByteArray), (⟨#[]⟩ : ByteArray), 3)) else ((strings_CutPrefix.f a0 (⟨#[45]⟩ : ByteArray)).bind fun bt242 => ((exact_run.f bt242.1).bind fun bt244 => ((strings_CutPrefix.f bt244.2 (⟨#[46]⟩ : ByteArray)).bind fun bt246 => (if bt246.2 = true then ((exact_run.f bt246.1).bind fun bt248 => (if bt248.1.toList = ([] : List UInt8) then (some ((⟨#[]⟩ : ByteArray), (⟨#[]⟩ : ByteArray), 10)) else (exact_Parse.j0 k bt248.2 bt242.2 bt244.1 bt248.1))) else (exact_Parse.j0 k bt244.2 bt242.2 bt244.1 (⟨#[]⟩ : ByteArray))))))
theorem exact_Parse.mono_l : ∀ k, (∀ y0 y1 y2 y3, LeO (exact_Parse.j0 k y0 y1 y2 y3) (exact_Parse.j0 (k + 1) y0 y1 y2 y3)) ∧ (∀ y0 y1 y2 y3 y4, LeO (exact_Parse.j1 k y0 y1 y2 y3 y4) (exact_Parse.j1 (k + 1) y0 y1 y2 y3 y4))
  | 0 => ⟨fun _ _ _ _ r h => by simp [exact_Parse.j0] at h, fun _ _ _ _ _ r h => by simp [exact_Parse.j1] at h⟩
  | k + 1 => by
    obtain ⟨ih0, ih1⟩ := exact_Parse.mono_l k
    refine ⟨?_, ?_⟩
    · intro y0 y1 y2 y3
      unfold exact_Parse.j0
      repeat' first
      | (with_reducible exact ih0 _ _ _ _)
      | (with_reducible exact ih1 _ _ _ _ _)
      | (with_reducible exact exact_exponent.mono _ _)
      | (with_reducible exact exact_nat_times.mono _ _ _)
      | (with_reducible exact exact_number_write.mono _ _ _ _)
      | (with_reducible exact exact_parse.mono _ _)
      | (with_reducible exact exact_ten.mono _ _)
      | (with_reducible exact LeO.refl _)
      | (with_reducible exact LeO.none _)
      | (with_reducible refine LeO.ite ?_ ?_)
      | (with_reducible refine LeO.bind ?_ (fun _ => ?_))
      | exact ih0 _ _ _ _
      | exact ih1 _ _ _ _ _
      | exact exact_exponent.mono _ _
      | exact exact_nat_times.mono _ _ _
      | exact exact_number_write.mono _ _ _ _
      | exact exact_parse.mono _ _
      | exact exact_ten.mono _ _
      | exact LeO.none _
      | refine LeO.ite ?_ ?_
      | refine LeO.bind ?_ (fun _ => ?_)
    · intro y0 y1 y2 y3 y4
      unfold exact_Parse.j1
      repeat' first
      | (with_reducible exact ih0 _ _ _ _)
      | (with_reducible exact ih1 _ _ _ _ _)
      | (with_reducible exact exact_exponent.mono _ _)
      | (with_reducible exact exact_nat_times.mono _ _ _)
      | (with_reducible exact exact_number_write.mono _ _ _ _)
      | (with_reducible exact exact_parse.mono _ _)
      | (with_reducible exact exact_ten.mono _ _)
      | (with_reducible exact LeO.refl _)
      | (with_reducible exact LeO.none _)
      | (with_reducible refine LeO.ite ?_ ?_)
      | (with_reducible refine LeO.bind ?_ (fun _ => ?_))
      | exact ih0 _ _ _ _
      | exact ih1 _ _ _ _ _
      | exact exact_exponent.mono _ _
      | exact exact_nat_times.mono _ _ _
      | exact exact_number_write.mono _ _ _ _
      | exact exact_parse.mono _ _
      | exact exact_ten.mono _ _
      | exact LeO.none _
      | refine LeO.ite ?_ ?_
      | refine LeO.bind ?_ (fun _ => ?_)
theorem exact_Parse.mono : ∀ a0 k, LeO (exact_Parse.f k a0) (exact_Parse.f (k + 1) a0) := by
  intro a0 k
  obtain ⟨ih0, ih1⟩ := exact_Parse.mono_l k
  unfold exact_Parse.f
  repeat' first
      | (with_reducible exact ih0 _ _ _ _)
      | (with_reducible exact ih1 _ _ _ _ _)
      | (with_reducible exact exact_exponent.mono _ _)
      | (with_reducible exact exact_nat_times.mono _ _ _)
      | (with_reducible exact exact_number_write.mono _ _ _ _)
      | (with_reducible exact exact_parse.mono _ _)
      | (with_reducible exact exact_ten.mono _ _)
      | (with_reducible exact LeO.refl _)
      | (with_reducible exact LeO.none _)
      | (with_reducible refine LeO.ite ?_ ?_)
      | (with_reducible refine LeO.bind ?_ (fun _ => ?_))
      | exact ih0 _ _ _ _
      | exact ih1 _ _ _ _ _
      | exact exact_exponent.mono _ _
      | exact exact_nat_times.mono _ _ _
      | exact exact_number_write.mono _ _ _ _
      | exact exact_parse.mono _ _
      | exact exact_ten.mono _ _
      | exact LeO.none _
      | refine LeO.ite ?_ ?_
      | refine LeO.bind ?_ (fun _ => ?_)
set_option maxHeartbeats 8000000 in
set_option maxRecDepth 100000 in
theorem exact_Parse.calls (k : Nat) (a0 : ByteArray) (r1 : ByteArray) (r2 : ByteArray) (r3 : Int) (w : World) (hGl : Gl w) (h : exact_Parse.f k a0 = some (r1, r2, r3)) :
    Calls Tryz.prog 69 #[.string a0] w fun e w' => e = .returned (.tuple #[.agg #[.string r1, .string r2], .int .i64 r3]) ∧ Below w.heap.size w w' := by
 have hu23 := Tryz.underlying30
 have hu80 := Tryz.underlying64
 have HB := Aside0.mk (Below.refl w.heap.size w)
 have H : (if (a0.size : Int) > 1000 then (some ((⟨#[]⟩ : ByteArray), (⟨#[]⟩ : ByteArray), 3)) else ((strings_CutPrefix.f a0 (⟨#[45]⟩ : ByteArray)).bind fun bt242 => ((exact_run.f bt242.1).bind fun bt244 => ((strings_CutPrefix.f bt244.2 (⟨#[46]⟩ : ByteArray)).bind fun bt246 => (if bt246.2 = true then ((exact_run.f bt246.1).bind fun bt248 => (if bt248.1.toList = ([] : List UInt8) then (some ((⟨#[]⟩ : ByteArray), (⟨#[]⟩ : ByteArray), 10)) else (exact_Parse.j0 k bt248.2 bt242.2 bt244.1 bt248.1))) else (exact_Parse.j0 k bt244.2 bt242.2 bt244.1 (⟨#[]⟩ : ByteArray))))))) = some (r1, r2, r3) := h
 clear h
 by_cases c2 : (a0.size : Int) > 1000
 ·rw [if_pos c2] at H
  have c2b0 : decide (1000 < (a0.size : Int)) = true := decide_eq_true c2
  have c2b1 : decide (1000 < a0.size) = true := decide_eq_true (by omega)
  clear c2
  simp only [Option.some.injEq, Prod.mk.injEq] at H
  obtain ⟨rfl, rfl, rfl⟩ := H
  go_enter Tryz.func69, Tryz.ntmps69
  go_wp2_with (first | ((with_reducible refine gate_dst (N := 2) rfl ?_); refine box_event ?hg (N := 2) ?hd (cs := #[.string (⟨#[]⟩ : ByteArray), .string (⟨#[]⟩ : ByteArray)]) (t := 30) ?hr ?_; (case hd => rfl); (case hg => rfl); (case hr => first | (go_simp; done) | (go_simp; rfl)); intro gb241 hg w3 hbox hb; have n0_ := Aside0.mk (below_step (bl HB.out) hb); have n1_ := Aside0.mk (hbox); have n2_ := Aside0.mk (szg hg (bl HB.out)); have n3_ := Aside0.mk (szg hg (bl HB.out)); clear HB; have HB := n0_; have BK241 := n1_; have GW241 := n2_; have GE241 := n3_; clear n0_ n1_ n2_ n3_; clear hb hbox hg; have hcz4_0 : w3.cell? ⟨gb241, 0, none⟩ = some (.string (⟨#[]⟩ : ByteArray)) := (blk_cell BK241.out 0).trans rfl; have hcz4_1 : w3.cell? ⟨gb241, 1, none⟩ = some (.string (⟨#[]⟩ : ByteArray)) := (blk_cell BK241.out 1).trans rfl; have hfz4_0 := blk_frozen BK241.out 0; have hfz4_1 := blk_frozen BK241.out 1))
  refine bodyPost_ret (results_ct rfl _ _ gb241 30 #[.string (⟨#[]⟩ : ByteArray), .string (⟨#[]⟩ : ByteArray)] (0, 0) _ rfl (by (with_reducible repeat (first | refine blk_drewN ?_ _ | refine blk_drew ?_ | refine blk_alloc ?_ _)); refine blk_put (cs := #[.string (⟨#[]⟩ : ByteArray), .string (⟨#[]⟩ : ByteArray)]) ?_ 1 _ rfl; (with_reducible repeat (first | refine blk_drewN ?_ _ | refine blk_drew ?_ | refine blk_alloc ?_ _)); refine blk_put (cs := #[.string (⟨#[]⟩ : ByteArray), .string (⟨#[]⟩ : ByteArray)]) ?_ 0 _ rfl; (with_reducible repeat (first | refine blk_drewN ?_ _ | refine blk_drew ?_ | refine blk_alloc ?_ _)); exact BK241.out) Tryz.underlying30 rfl (by kernel_rfl)) rfl ?_
  exact ⟨by first | rfl | (simp [errW_none, errW_some] <;> rfl) | (simp [*, errW_none, errW_some] <;> rfl), bl HB.out⟩
 ·rw [if_neg c2] at H
  have c2b0 : decide (1000 < (a0.size : Int)) = false := decide_eq_false c2
  have c2b1 : decide (1000 < a0.size) = false := decide_eq_false (by omega)
  clear c2
  replace H := Option.bind_eq_some_iff.mp H
  obtain ⟨⟨t242, t243⟩, A50, H⟩ := H
  replace H : ((exact_run.f t242).bind fun bt244 => ((strings_CutPrefix.f bt244.2 (⟨#[46]⟩ : ByteArray)).bind fun bt246 => (if bt246.2 = true then ((exact_run.f bt246.1).bind fun bt248 => (if bt248.1.toList = ([] : List UInt8) then (some ((⟨#[]⟩ : ByteArray), (⟨#[]⟩ : ByteArray), 10)) else (exact_Parse.j0 k bt248.2 t243 bt244.1 bt248.1))) else (exact_Parse.j0 k bt244.2 t243 bt244.1 (⟨#[]⟩ : ByteArray))))) = some (r1, r2, r3) := H
  have A5 := Aside0.mk A50
  clear A50
  replace H := Option.bind_eq_some_iff.mp H
  obtain ⟨⟨t244, t245⟩, A60, H⟩ := H
  replace H : ((strings_CutPrefix.f t245 (⟨#[46]⟩ : ByteArray)).bind fun bt246 => (if bt246.2 = true then ((exact_run.f bt246.1).bind fun bt248 => (if bt248.1.toList = ([] : List UInt8) then (some ((⟨#[]⟩ : ByteArray), (⟨#[]⟩ : ByteArray), 10)) else (exact_Parse.j0 k bt248.2 t243 t244 bt248.1))) else (exact_Parse.j0 k t245 t243 t244 (⟨#[]⟩ : ByteArray)))) = some (r1, r2, r3) := H
  have A6 := Aside0.mk A60
  clear A60
  replace H := Option.bind_eq_some_iff.mp H
  obtain ⟨⟨t246, t247⟩, A70, H⟩ := H
  replace H : (if t247 = true then ((exact_run.f t246).bind fun bt248 => (if bt248.1.toList = ([] : List UInt8) then (some ((⟨#[]⟩ : ByteArray), (⟨#[]⟩ : ByteArray), 10)) else (exact_Parse.j0 k bt248.2 t243 t244 bt248.1))) else (exact_Parse.j0 k t245 t243 t244 (⟨#[]⟩ : ByteArray))) = some (r1, r2, r3) := H
  have A7 := Aside0.mk A70
  clear A70
  have HC8 := Aside0.mk H
  clear H
  go_enter Tryz.func69, Tryz.ntmps69
  go_upto_if 32 with (first | ((with_reducible refine gate_dst (N := 2) rfl ?_); refine box_event ?hg (N := 2) ?hd (cs := #[.string (⟨#[]⟩ : ByteArray), .string (⟨#[]⟩ : ByteArray)]) (t := 30) ?hr ?_; (case hd => rfl); (case hg => rfl); (case hr => first | (go_simp; done) | (go_simp; rfl)); intro gb241 hg w9 hbox hb; have n0_ := Aside0.mk (below_step (bl HB.out) hb); have n1_ := Aside0.mk (hbox); have n2_ := Aside0.mk (szg hg (bl HB.out)); have n3_ := Aside0.mk (szg hg (bl HB.out)); clear HB; have HB := n0_; have BK241 := n1_; have GW241 := n2_; have GE241 := n3_; clear n0_ n1_ n2_ n3_; clear hb hbox hg) | ((with_reducible refine gate_callee (f := 40) rfl ?_); refine goesL_ (some 19) rfl rfl Tryz.func40 (by kernel_rfl) rfl #[.string a0, .string (⟨#[45]⟩ : ByteArray)] rfl (by (try simp only [List.map_toArray, List.map_cons, List.map_nil]); first | done | rfl | (simp only [List.length_drop, List.length_take]; rfl)) ?_; (with_reducible refine (strings_CutPrefix.calls a0 (⟨#[45]⟩ : ByteArray) t242 t243 _ ?side1 A5.out).mono ?_); (case side1 => first | exact hGl | exact gl_below hGl (bl HB.out)); rintro e w' ⟨rfl, ⟨nd, rfl⟩⟩; refine ⟨_, rfl, ?_⟩) | ((with_reducible refine gate_callee (f := 100) rfl ?_); refine goesL_ (some 24) rfl rfl Tryz.func100 (by kernel_rfl) rfl #[.string t242] rfl (by (try simp only [List.map_toArray, List.map_cons, List.map_nil]); first | done | rfl | (simp only [List.length_drop, List.length_take]; rfl)) ?_; (with_reducible refine (exact_run.calls t242 t244 t245 _ ?side1 A6.out).mono ?_); (case side1 => first | exact hGl | exact gl_below hGl (bl HB.out)); rintro e w10 ⟨rfl, hb⟩; refine ⟨_, rfl, ?_⟩; have n0_ := Aside0.mk (blk_below (g := gb241) (o := .cells #[.string (⟨#[]⟩ : ByteArray), .string (⟨#[]⟩ : ByteArray)] 30 (0, 0)) (bk BK241.out) hb); have n1_ := Aside0.mk (below_step (bl HB.out) hb); clear BK241; clear HB; have BK241 := n0_; have HB := n1_; clear n0_ n1_; (try clear hb); (try clear hb2); (try clear hk); (try clear hi)) | ((with_reducible refine gate_callee (f := 40) rfl ?_); refine goesL_ (some 29) rfl rfl Tryz.func40 (by kernel_rfl) rfl #[.string t245, .string (⟨#[46]⟩ : ByteArray)] rfl (by (try simp only [List.map_toArray, List.map_cons, List.map_nil]); first | done | rfl | (simp only [List.length_drop, List.length_take]; rfl)) ?_; (with_reducible refine (strings_CutPrefix.calls t245 (⟨#[46]⟩ : ByteArray) t246 t247 _ ?side1 A7.out).mono ?_); (case side1 => first | exact hGl | exact gl_below hGl (bl HB.out)); rintro e w' ⟨rfl, ⟨nd, rfl⟩⟩; refine ⟨_, rfl, ?_⟩))
  (try simp only [Act.put, List.setIfInBounds_toArray, List.set_cons_zero, List.set_cons_succ])
  go_cut [4, 7] (fun v4 v7 wc => ∃ (kq : Nat) (x4_7 : ByteArray) (x7_7 : ByteArray) (x242000_7 : ByteArray) (x242001_7 : ByteArray), v4 = .string x4_7 ∧ v7 = .string x7_7 ∧ Aside0 (exact_Parse.j0 kq x4_7 t243 t244 x7_7 = some (r1, r2, r3)) ∧ Aside0 (kq ≤ k) ∧ Aside0 (wc.heap[gb241]? = some (.cells #[.string x242000_7, .string x242001_7] 30 (0, 0))) ∧ Aside0 (Below w.heap.size w wc))
  case first =>
   have H := HC8.out
   clear HC8
   by_cases c11 : t247 = true
   ·subst c11
    have H1 : ((exact_run.f t246).bind fun bt248 => (if bt248.1.toList = ([] : List UInt8) then (some ((⟨#[]⟩ : ByteArray), (⟨#[]⟩ : ByteArray), 10)) else (exact_Parse.j0 k bt248.2 t243 t244 bt248.1))) = some (r1, r2, r3) := by rw [if_pos rfl] at H; exact H
    clear H
    have H := H1
    clear H1
    replace H := Option.bind_eq_some_iff.mp H
    obtain ⟨⟨t248, t249⟩, A120, H⟩ := H
    replace H : (if t248.toList = ([] : List UInt8) then (some ((⟨#[]⟩ : ByteArray), (⟨#[]⟩ : ByteArray), 10)) else (exact_Parse.j0 k t249 t243 t244 t248)) = some (r1, r2, r3) := H
    have A12 := Aside0.mk A120
    clear A120
    by_cases c13 : t248.toList = ([] : List UInt8)
    ·rw [if_pos c13] at H
     have c13b0 : (t248.toList == ([] : List UInt8)) = true := beq_iff_eq.mpr c13
     have c13b1 : (t248.toList != ([] : List UInt8)) = false := bne_eq_false_iff_eq.mpr c13
     have c13b2 : t248.toList.isEmpty = true := isE1 c13
     have c13b3 : (!t248.toList.isEmpty) = false := by rw [isE1 c13]; rfl
     clear c13
     (first | rw [c13b0] | (simp only [i64_w, i32_w]; rw [c13b0]) | rw [c13b2] | skip)
     simp only [Option.some.injEq, Prod.mk.injEq] at H
     obtain ⟨rfl, rfl, rfl⟩ := H
     go_wp2_with (first | ((with_reducible refine gate_callee (f := 100) rfl ?_); refine goesL_ (some 35) rfl rfl Tryz.func100 (by kernel_rfl) rfl #[.string t246] rfl (by (try simp only [List.map_toArray, List.map_cons, List.map_nil]); first | done | rfl | (simp only [List.length_drop, List.length_take]; rfl)) ?_; (with_reducible refine (exact_run.calls t246 t248 t249 _ ?side1 A12.out).mono ?_); (case side1 => first | exact hGl | exact gl_below hGl (bl HB.out)); rintro e w14 ⟨rfl, hb⟩; refine ⟨_, rfl, ?_⟩; have n0_ := Aside0.mk (blk_below (g := gb241) (o := .cells #[.string (⟨#[]⟩ : ByteArray), .string (⟨#[]⟩ : ByteArray)] 30 (0, 0)) (bk BK241.out) hb); have n1_ := Aside0.mk (below_step (bl HB.out) hb); clear BK241; clear HB; have BK241 := n0_; have HB := n1_; clear n0_ n1_; (try clear hb); (try clear hb2); (try clear hk); (try clear hi); have hcz15_0 : w14.cell? ⟨gb241, 0, none⟩ = some (.string (⟨#[]⟩ : ByteArray)) := (blk_cell BK241.out 0).trans rfl; have hcz15_1 : w14.cell? ⟨gb241, 1, none⟩ = some (.string (⟨#[]⟩ : ByteArray)) := (blk_cell BK241.out 1).trans rfl; have hfz15_0 := blk_frozen BK241.out 0; have hfz15_1 := blk_frozen BK241.out 1))
     refine bodyPost_ret (results_ct rfl _ _ gb241 30 #[.string (⟨#[]⟩ : ByteArray), .string (⟨#[]⟩ : ByteArray)] (0, 0) _ rfl (by (with_reducible repeat (first | refine blk_drewN ?_ _ | refine blk_drew ?_ | refine blk_alloc ?_ _)); refine blk_put (cs := #[.string (⟨#[]⟩ : ByteArray), .string (⟨#[]⟩ : ByteArray)]) ?_ 1 _ rfl; (with_reducible repeat (first | refine blk_drewN ?_ _ | refine blk_drew ?_ | refine blk_alloc ?_ _)); refine blk_put (cs := #[.string (⟨#[]⟩ : ByteArray), .string (⟨#[]⟩ : ByteArray)]) ?_ 0 _ rfl; (with_reducible repeat (first | refine blk_drewN ?_ _ | refine blk_drew ?_ | refine blk_alloc ?_ _)); exact BK241.out) Tryz.underlying30 rfl (by kernel_rfl)) rfl ?_
     exact ⟨by first | rfl | (simp [errW_none, errW_some] <;> rfl) | (simp [*, errW_none, errW_some] <;> rfl), bl HB.out⟩
    ·rw [if_neg c13] at H
     have c13b0 : (t248.toList == ([] : List UInt8)) = false := beq_eq_false_iff_ne.mpr c13
     have c13b1 : (t248.toList != ([] : List UInt8)) = true := bne_iff_ne.mpr c13
     have c13b2 : t248.toList.isEmpty = false := isE0 c13
     have c13b3 : (!t248.toList.isEmpty) = true := by rw [isE0 c13]; rfl
     (first | rw [c13b0] | (simp only [i64_w, i32_w]; rw [c13b0]) | rw [c13b2] | skip)
     have H' := Aside0.mk H
     clear H
     go_wp2_with (first | ((with_reducible refine gate_callee (f := 100) rfl ?_); refine goesL_ (some 35) rfl rfl Tryz.func100 (by kernel_rfl) rfl #[.string t246] rfl (by (try simp only [List.map_toArray, List.map_cons, List.map_nil]); first | done | rfl | (simp only [List.length_drop, List.length_take]; rfl)) ?_; (with_reducible refine (exact_run.calls t246 t248 t249 _ ?side1 A12.out).mono ?_); (case side1 => first | exact hGl | exact gl_below hGl (bl HB.out)); rintro e w16 ⟨rfl, hb⟩; refine ⟨_, rfl, ?_⟩; have n0_ := Aside0.mk (blk_below (g := gb241) (o := .cells #[.string (⟨#[]⟩ : ByteArray), .string (⟨#[]⟩ : ByteArray)] 30 (0, 0)) (bk BK241.out) hb); have n1_ := Aside0.mk (below_step (bl HB.out) hb); clear BK241; clear HB; have BK241 := n0_; have HB := n1_; clear n0_ n1_; (try clear hb); (try clear hb2); (try clear hk); (try clear hi)))
     go_meet
     case rel => exact ⟨_, (t249), (t248), ((⟨#[]⟩ : ByteArray)), ((⟨#[]⟩ : ByteArray)), (by first | rfl | (simp; done) | (simp [*]; done)), (by first | rfl | (simp; done) | (simp [*]; done)), H', ⟨by first | omega | exact Nat.le_refl _⟩, ⟨bk BK241.out⟩, ⟨bl HB.out⟩⟩
   ·replace c11 := Bool.eq_false_iff.mpr c11
    subst c11
    have H1 : (exact_Parse.j0 k t245 t243 t244 (⟨#[]⟩ : ByteArray)) = some (r1, r2, r3) := by rw [if_neg (show ¬ (false = true) by decide)] at H; exact H
    clear H
    have H := H1
    clear H1
    have H' := Aside0.mk H
    clear H
    go_wp2
    go_meet
    case rel => exact ⟨_, (t245), ((⟨#[]⟩ : ByteArray)), ((⟨#[]⟩ : ByteArray)), ((⟨#[]⟩ : ByteArray)), (by first | rfl | (simp; done) | (simp [*]; done)), (by first | rfl | (simp; done) | (simp [*]; done)), H', ⟨by first | omega | exact Nat.le_refl _⟩, ⟨bk BK241.out⟩, ⟨bl HB.out⟩⟩
  case rest =>
   clear HC8
   try clear c1
   try clear c2
   try clear c2b0
   try clear c2b1
   try clear p2
   try clear c5
   try clear c6
   try clear c11
   try clear c13
   try clear c13b0
   try clear c13b1
   try clear c13b2
   try clear hcz15_0
   try clear hcz15_1
   try clear hcz4_0
   try clear hcz4_1
   try clear hfz15_0
   try clear hfz15_1
   try clear hfz4_0
   try clear hfz4_1
   obtain ⟨kq, x4_7, x7_7, x242000_7, x242001_7, rfl, rfl, HA, HJ7, BK241, HB⟩ := hcut
   cases kq with
   | zero => exact absurd HA.out (by simp [exact_Parse.j0])
   | succ kj7 =>
    have H := HA.out
    clear HA
    simp only [exact_Parse.j0] at H
    replace H := Option.bind_eq_some_iff.mp H
    obtain ⟨⟨t250, t251⟩, A170, H⟩ := H
    replace H : (if t244.toList = ([] : List UInt8) then (exact_Parse.j1 kj7 t243 t244 x7_7 t250 true) else (exact_Parse.j1 kj7 t243 t244 x7_7 t250 (!t251))) = some (r1, r2, r3) := H
    have A17 := Aside0.mk A170
    clear A170
    have HC18 := Aside0.mk H
    clear H
    go_upto_region 12 with (first | ((with_reducible refine gate_callee (f := 101) rfl ?_); refine goesL_ (some 43) rfl rfl Tryz.func101 (by kernel_rfl) rfl #[.string x4_7] rfl (by (try simp only [List.map_toArray, List.map_cons, List.map_nil]); first | done | rfl | (simp only [List.length_drop, List.length_take]; rfl)) ?_; (with_reducible refine (exact_exponent.calls kj7 x4_7 t250 t251 _ ?side1 A17.out).mono ?_); (case side1 => first | exact hGl | exact gl_below hGl (bl HB.out)); rintro e w19 ⟨rfl, hb⟩; refine ⟨_, rfl, ?_⟩; have n0_ := Aside0.mk (blk_below (bk BK241.out) hb); have n1_ := Aside0.mk (below_step (bl HB.out) hb); clear BK241; clear HB; have BK241 := n0_; have HB := n1_; clear n0_ n1_; (try clear hb); (try clear hb2); (try clear hk); (try clear hi)))
    (try simp only [Act.put, List.setIfInBounds_toArray, List.set_cons_zero, List.set_cons_succ])
    go_cut [51] (fun v51 wc => ∃ (kq : Nat) (x51_17 : Bool), v51 = .bool x51_17 ∧ Aside0 (exact_Parse.j1 kq t243 t244 x7_7 t250 x51_17 = some (r1, r2, r3)) ∧ Aside0 (kq ≤ kj7) ∧ Aside0 (wc.heap[gb241]? = some (.cells #[.string x242000_7, .string x242001_7] 30 (0, 0))) ∧ Aside0 (Below w.heap.size w wc))
    case first =>
     have H := HC18.out
     clear HC18
     by_cases c20 : t244.toList = ([] : List UInt8)
     ·rw [if_pos c20] at H
      have c20b0 : (t244.toList == ([] : List UInt8)) = true := beq_iff_eq.mpr c20
      have c20b1 : (t244.toList != ([] : List UInt8)) = false := bne_eq_false_iff_eq.mpr c20
      have c20b2 : t244.toList.isEmpty = true := isE1 c20
      have c20b3 : (!t244.toList.isEmpty) = false := by rw [isE1 c20]; rfl
      clear c20
      (first | rw [c20b0] | (simp only [i64_w, i32_w]; rw [c20b0]) | rw [c20b2] | skip)
      have H' := Aside0.mk H
      clear H
      go_wp2
      go_meet
      case rel => exact ⟨_, (true), (by first | rfl | (simp; done) | (simp [*]; done)), H', ⟨by have := HJ7.out; first | omega | exact Nat.le_refl _⟩, ⟨bk BK241.out⟩, ⟨bl HB.out⟩⟩
     ·rw [if_neg c20] at H
      have c20b0 : (t244.toList == ([] : List UInt8)) = false := beq_eq_false_iff_ne.mpr c20
      have c20b1 : (t244.toList != ([] : List UInt8)) = true := bne_iff_ne.mpr c20
      have c20b2 : t244.toList.isEmpty = false := isE0 c20
      have c20b3 : (!t244.toList.isEmpty) = true := by rw [isE0 c20]; rfl
      (first | rw [c20b0] | (simp only [i64_w, i32_w]; rw [c20b0]) | rw [c20b2] | skip)
      have H' := Aside0.mk H
      clear H
      go_wp2
      go_meet
      case rel => exact ⟨_, (!t251), (by first | rfl | (simp; done) | (simp [*]; done)), H', ⟨by have := HJ7.out; first | omega | exact Nat.le_refl _⟩, ⟨bk BK241.out⟩, ⟨bl HB.out⟩⟩
    case rest =>
     clear HC18
     try clear c1
     try clear c2
     try clear c2b0
     try clear c2b1
     try clear p2
     try clear c5
     try clear c6
     try clear c11
     try clear c13
     try clear c13b0
     try clear c13b1
     try clear c13b2
     try clear c20
     try clear c20b0
     try clear c20b1
     try clear c20b2
     try clear hcz15_0
     try clear hcz15_1
     try clear hcz4_0
     try clear hcz4_1
     try clear hfz15_0
     try clear hfz15_1
     try clear hfz4_0
     try clear hfz4_1
     try clear p2
     obtain ⟨kq, x51_17, rfl, HA, HJ17, BK241, HB⟩ := hcut
     cases kq with
     | zero => exact absurd HA.out (by simp [exact_Parse.j1])
     | succ kj17 =>
      have H := HA.out
      clear HA
      simp only [exact_Parse.j1] at H
      by_cases c21 : x51_17 = true
      ·subst c21
       have H1 : (some ((⟨#[]⟩ : ByteArray), (⟨#[]⟩ : ByteArray), 10)) = some (r1, r2, r3) := by rw [if_pos rfl] at H; exact H
       clear H
       have H := H1
       clear H1
       simp only [Option.some.injEq, Prod.mk.injEq] at H
       obtain ⟨rfl, rfl, rfl⟩ := H
       have hcz22_0 : wc.cell? ⟨gb241, 0, none⟩ = some (.string x242000_7) := (blk_cell BK241.out 0).trans rfl
       have hcz22_1 : wc.cell? ⟨gb241, 1, none⟩ = some (.string x242001_7) := (blk_cell BK241.out 1).trans rfl
       have hfz22_0 := blk_frozen BK241.out 0
       have hfz22_1 := blk_frozen BK241.out 1
       go_wp2
       refine bodyPost_ret (results_ct rfl _ _ gb241 30 #[.string (⟨#[]⟩ : ByteArray), .string (⟨#[]⟩ : ByteArray)] (0, 0) _ rfl (by (with_reducible repeat (first | refine blk_drewN ?_ _ | refine blk_drew ?_ | refine blk_alloc ?_ _)); refine blk_put (cs := #[.string (⟨#[]⟩ : ByteArray), .string x242001_7]) ?_ 1 _ rfl; (with_reducible repeat (first | refine blk_drewN ?_ _ | refine blk_drew ?_ | refine blk_alloc ?_ _)); refine blk_put (cs := #[.string x242000_7, .string x242001_7]) ?_ 0 _ rfl; (with_reducible repeat (first | refine blk_drewN ?_ _ | refine blk_drew ?_ | refine blk_alloc ?_ _)); exact BK241.out) Tryz.underlying30 rfl (by kernel_rfl)) rfl ?_
       exact ⟨by first | rfl | (simp [errW_none, errW_some] <;> rfl) | (simp [*, errW_none, errW_some] <;> rfl), bl HB.out⟩
      ·replace c21 := Bool.eq_false_iff.mpr c21
       subst c21
       have H1 : (if t244.size + x7_7.size ≤ 9223372036854775807 then ((exact_parse.f kj17 (t244 ++ x7_7)).bind fun t252 => (if (wrap64 (t250 - (x7_7.size : Int))) < 0 then ((exact_ten.f kj17 (wrap64 (-(wrap64 (t250 - (x7_7.size : Int)))))).bind fun t259 => ((exact_number_write.f kj17 t243 t252 t259).bind fun bt262 => (some (bt262.1, bt262.2.1, bt262.2.2)))) else ((exact_ten.f kj17 (wrap64 (t250 - (x7_7.size : Int)))).bind fun t265 => ((exact_nat_times.f kj17 t252 t265).bind fun t268 => ((exact_number_write.f kj17 t243 t268 (([1] : List Int))).bind fun bt271 => (some (bt271.1, bt271.2.1, bt271.2.2))))))) else (none)) = some (r1, r2, r3) := by rw [if_neg (show ¬ (false = true) by decide)] at H; exact H
       clear H
       have H := H1
       clear H1
       by_cases c23 : t244.size + x7_7.size ≤ 9223372036854775807
       ·rw [if_pos c23] at H
        have c23b0 := eq_true c23
        have c23b1 : decide (t244.size + x7_7.size ≤ 9223372036854775807) = true := decide_eq_true c23
        try have c23b2 : (9223372036854775807 < t244.size + x7_7.size) = False := eq_false (Nat.not_lt.2 c23)
        replace H := Option.bind_eq_some_iff.mp H
        obtain ⟨t252, A240, H⟩ := H
        replace H : (if (wrap64 (t250 - (x7_7.size : Int))) < 0 then ((exact_ten.f kj17 (wrap64 (-(wrap64 (t250 - (x7_7.size : Int)))))).bind fun t259 => ((exact_number_write.f kj17 t243 t252 t259).bind fun bt262 => (some (bt262.1, bt262.2.1, bt262.2.2)))) else ((exact_ten.f kj17 (wrap64 (t250 - (x7_7.size : Int)))).bind fun t265 => ((exact_nat_times.f kj17 t252 t265).bind fun t268 => ((exact_number_write.f kj17 t243 t268 (([1] : List Int))).bind fun bt271 => (some (bt271.1, bt271.2.1, bt271.2.2)))))) = some (r1, r2, r3) := H
        have A24 := Aside0.mk A240
        clear A240
        obtain ⟨y255, hy255⟩ : ∃ y_ : List Int, y_ = (([1] : List Int)) := ⟨_, rfl⟩
        replace H : (if (wrap64 (t250 - (x7_7.size : Int))) < 0 then ((exact_ten.f kj17 (wrap64 (-(wrap64 (t250 - (x7_7.size : Int)))))).bind fun t259 => ((exact_number_write.f kj17 t243 t252 t259).bind fun bt262 => (some (bt262.1, bt262.2.1, bt262.2.2)))) else ((exact_ten.f kj17 (wrap64 (t250 - (x7_7.size : Int)))).bind fun t265 => ((exact_nat_times.f kj17 t252 t265).bind fun t268 => ((exact_number_write.f kj17 t243 t268 y255).bind fun bt271 => (some (bt271.1, bt271.2.1, bt271.2.2)))))) = some (r1, r2, r3) := by first | (rw [hy255]; with_reducible exact H) | (have H2_ := (Option.bind_some _ _).symm.trans H; rw [hy255]; with_reducible exact H2_) | (have H2_ := (Option.bind_some _ _).symm.trans H; with_reducible exact H2_) | with_reducible exact H | (rw [hy255]; exact H) | exact H
        have Ny255 := Aside0.mk hy255
        clear hy255
        by_cases c25 : (wrap64 (t250 - (x7_7.size : Int))) < 0
        ·rw [if_pos c25] at H
         have c25b0 : decide ((wrap64 (t250 - (x7_7.size : Int))) < 0) = true := decide_eq_true c25
         clear c25
         replace H := Option.bind_eq_some_iff.mp H
         obtain ⟨t259, A260, H⟩ := H
         replace H : ((exact_number_write.f kj17 t243 t252 t259).bind fun bt262 => (some (bt262.1, bt262.2.1, bt262.2.2))) = some (r1, r2, r3) := H
         have A26 := Aside0.mk A260
         clear A260
         replace H := Option.bind_eq_some_iff.mp H
         obtain ⟨⟨t262, t263, t264⟩, A270, H⟩ := H
         replace H : (some (t262, t263, t264)) = some (r1, r2, r3) := H
         have A27 := Aside0.mk A270
         clear A270
         simp only [Option.some.injEq, Prod.mk.injEq] at H
         obtain ⟨rfl, rfl, rfl⟩ := H
         go_wp2_with (first | ((with_reducible refine gate_callee (f := 58) rfl ?_); refine goesL_ (some 57) rfl rfl Tryz.func58 (by kernel_rfl) rfl #[.string (t244 ++ x7_7)] rfl (by (try simp only [List.map_toArray, List.map_cons, List.map_nil]); first | done | rfl | (simp only [List.length_drop, List.length_take]; rfl)) ?_; (with_reducible refine (exact_parse.calls kj17 (t244 ++ x7_7) t252 _ ?side1 A24.out).mono ?_); (case side1 => first | exact hGl | exact gl_below hGl (bl HB.out)); rintro e w28 ⟨v253, rfl, ho0, hb⟩; refine ⟨_, rfl, ?_⟩; have n0_ := Aside0.mk (Kd.V_lower (Kd.V_mono (ok' := fun k_ => k_ ≠ gb241) ho0 (fun k_ hk_ => (Kd.freshB (bk BK241.out) k_ hk_))) (below_size (bl HB.out))); have n1_ := Aside0.mk (blk_below (bk BK241.out) hb); have n2_ := Aside0.mk (below_step (bl HB.out) hb); clear BK241; clear HB; have HO254 := n0_; have BK241 := n1_; have HB := n2_; clear n0_ n1_ n2_; (try clear hb); (try clear hb2); (try clear hk); (try clear hi); (try clear ho0)) | ((with_reducible refine gate_dst (N := 58) rfl ?_); refine Kd.R_lit (Kd.int .u32) _ 69 ?hg (N := 58) ?hd (xs := ([1] : List Int)) (inner := [.int .u32 1]) (ok := fun _ => True) (okp := fun _ => True) ?hr ?hp (fun _ hk => hk) trivial (Below.refl _ _) (Nat.le_refl _) (by simp) ?_; (case hd => rfl); (case hg => rfl); (case hr => first | (go_simp; done) | (go_simp; rfl)); (case hp => exact (Reps.one (show Kd.M (Kd.int .u32) _ _ _ 1 [.int .u32 1] from rfl) (Reps.none _ _))); intro v256 w29 ho30 hb hg_ hnew_; clear hg_ hnew_; (first | rw [← Ny255.out] at ho30 | (simp only [Int.reduceToNat] at ho30; rw [← Ny255.out] at ho30)); have n0_ := Aside0.mk (Kd.V_elder' (vl HO254.out) (Kd.R_base ho30) hb); have n1_ := Aside0.mk (Kd.R_lower ho30 (below_size (bl HB.out))); have n2_ := Aside0.mk (blk_below (bk BK241.out) hb); have n3_ := Aside0.mk (below_step (bl HB.out) hb); clear HO254; clear BK241; clear HB; have HO254 := n0_; have HO257 := n1_; have BK241 := n2_; have HB := n3_; clear n0_ n1_ n2_ n3_; clear hb ho30; obtain ⟨Ao31, co31, eo31⟩ := Kd.R_slice HO257.out; subst eo31; obtain ⟨Ao32, co32, eo32⟩ := Kd.V_slice HO254.out; subst eo32) | ((with_reducible refine gate_dst (N := 12) rfl ?_); refine box_event ?hg (N := 12) ?hd (cs := #[.bool false, .slice none 0 0, .slice none 0 0]) (t := 64) ?hr ?_; (case hd => rfl); (case hg => rfl); (case hr => first | (go_simp; done) | (go_simp; rfl)); intro gb258 hg w33 hbox hb; have n0_ := Aside0.mk (Kd.V_below (Kd.V_elderB (vl HO254.out) gb258 (Nat.le_of_eq hg.symm)) hb); have n1_ := Aside0.mk (Kd.R_below (rl HO257.out) hb); have n2_ := Aside0.mk (blk_below (bk BK241.out) hb); have n3_ := Aside0.mk (below_step (bl HB.out) hb); have n4_ := Aside0.mk (hbox); have n5_ := Aside0.mk (szg hg (bl HB.out)); have n6_ := Aside0.mk (szg hg (bl HB.out)); have n7_ := Aside0.mk (ntl hg (bk BK241.out)); have n8_ := Aside0.mk (ntg hg (bk BK241.out)); clear HO254; clear HO257; clear BK241; clear HB; have HO254 := n0_; have HO257 := n1_; have BK241 := n2_; have HB := n3_; have BK258 := n4_; have GW258 := n5_; have GE258 := n6_; have NB241_258 := n7_; have NB258_241 := n8_; clear n0_ n1_ n2_ n3_ n4_ n5_ n6_ n7_ n8_; clear hb hbox hg; have hnb34 := NB258_241.out; have hnc34 := NB241_258.out; have hcz35_0 : w33.cell? ⟨gb258, 0, none⟩ = some (.bool false) := (blk_cell BK258.out 0).trans rfl; have hcz35_1 : w33.cell? ⟨gb258, 1, none⟩ = some (.slice none 0 0) := (blk_cell BK258.out 1).trans rfl; have hcz35_2 : w33.cell? ⟨gb258, 2, none⟩ = some (.slice none 0 0) := (blk_cell BK258.out 2).trans rfl; have hfz35_0 := blk_frozen BK258.out 0; have hfz35_1 := blk_frozen BK258.out 1; have hfz35_2 := blk_frozen BK258.out 2) | ((with_reducible refine gate_callee (f := 37) rfl ?_); refine goesL_ (some 68) rfl rfl Tryz.func37 (by kernel_rfl) rfl #[.int .i64 (wrap64 (-(wrap64 (t250 - (x7_7.size : Int)))))] rfl (by (try simp only [List.map_toArray, List.map_cons, List.map_nil]); first | done | rfl | (simp only [List.length_drop, List.length_take]; rfl)) ?_; (with_reducible refine (exact_ten.calls kj17 (wrap64 (-(wrap64 (t250 - (x7_7.size : Int))))) t259 _ ?side1 A26.out).mono ?_); (case side1 => first | exact hGl | exact gl_below hGl (bl HB.out)); rintro e w36 ⟨v260, rfl, ho0, hb⟩; refine ⟨_, rfl, ?_⟩; have n0_ := Aside0.mk (Kd.V_below (by (with_reducible repeat (first | apply Kd.V_alloc | apply Kd.V_drewN | apply Kd.V_drew)); exact (Kd.V_mono (Kd.V_far (p := ⟨gb258, 2, none⟩) (Kd.V_far (p := ⟨gb258, 1, none⟩) (Kd.V_far (p := ⟨gb258, 0, none⟩) (Kd.V_mono HO254.out (fun k_ hk => (⟨hk, hk.2⟩ : _ ∧ k_ ≠ gb258))) (fun _ hk => hk.2) (.bool t243)) (fun _ hk => hk.2) (.slice Ao32 t252.length co32)) (fun _ hk => hk.2) (.slice Ao31 y255.length co31)) (fun _ h_ => h_.1))) hb); have n1_ := Aside0.mk (Kd.R_below (by (with_reducible repeat (first | apply Kd.R_alloc | apply Kd.R_drewN | apply Kd.R_drew)); exact (Kd.R_mono (Kd.R_far (p := ⟨gb258, 2, none⟩) (Kd.R_far (p := ⟨gb258, 1, none⟩) (Kd.R_far (p := ⟨gb258, 0, none⟩) (Kd.R_types HO257.out BK258.out (by decide)) (fun _ hk => hk.2) (.bool t243)) (fun _ hk => hk.2) (.slice Ao32 t252.length co32)) (fun _ hk => hk.2) (.slice Ao31 y255.length co31)) (fun _ h_ => h_.1))) hb); have n2_ := Aside0.mk (Kd.V_lower (Kd.V_mono (ok' := fun k_ => some k_ ≠ (.slice Ao31 y255.length co31 : Value).ownBlock ∧ k_ ≠ gb241 ∧ k_ ≠ gb258) ho0 (fun k_ hk_ => ⟨(Kd.fresh' (Kd.R_lt (by (with_reducible repeat (first | apply Kd.R_alloc | apply Kd.R_drewN | apply Kd.R_drew)); exact (Kd.R_mono (Kd.R_far (p := ⟨gb258, 2, none⟩) (Kd.R_far (p := ⟨gb258, 1, none⟩) (Kd.R_far (p := ⟨gb258, 0, none⟩) (Kd.R_types HO257.out BK258.out (by decide)) (fun _ hk => hk.2) (.bool t243)) (fun _ hk => hk.2) (.slice Ao32 t252.length co32)) (fun _ hk => hk.2) (.slice Ao31 y255.length co31)) (fun _ h_ => h_.1)))) k_ hk_), (Kd.freshB (g := gb241) (o := .cells #[.string x242000_7, .string x242001_7] 30 (0, 0)) (bf BK241.out) k_ hk_), (Kd.freshB (g := gb258) (o := .cells #[.bool t243, .slice Ao32 t252.length co32, .slice Ao31 y255.length co31] 64 (0, 0)) (by (with_reducible repeat (first | refine blk_drewN ?_ _ | refine blk_drew ?_ | refine blk_alloc ?_ _)); refine blk_put (cs := #[.bool t243, .slice Ao32 t252.length co32, .slice none 0 0]) ?_ 2 _ rfl; (with_reducible repeat (first | refine blk_drewN ?_ _ | refine blk_drew ?_ | refine blk_alloc ?_ _)); refine blk_put (cs := #[.bool t243, .slice none 0 0, .slice none 0 0]) ?_ 1 _ rfl; (with_reducible repeat (first | refine blk_drewN ?_ _ | refine blk_drew ?_ | refine blk_alloc ?_ _)); refine blk_put (cs := #[.bool false, .slice none 0 0, .slice none 0 0]) ?_ 0 _ rfl; (with_reducible repeat (first | refine blk_drewN ?_ _ | refine blk_drew ?_ | refine blk_alloc ?_ _)); exact BK258.out) k_ hk_)⟩)) (below_size (bl HB.out))); have n3_ := Aside0.mk (blk_below (g := gb241) (o := .cells #[.string x242000_7, .string x242001_7] 30 (0, 0)) (bf BK241.out) hb); have n4_ := Aside0.mk (blk_below (g := gb258) (o := .cells #[.bool t243, .slice Ao32 t252.length co32, .slice Ao31 y255.length co31] 64 (0, 0)) (by (with_reducible repeat (first | refine blk_drewN ?_ _ | refine blk_drew ?_ | refine blk_alloc ?_ _)); refine blk_put (cs := #[.bool t243, .slice Ao32 t252.length co32, .slice none 0 0]) ?_ 2 _ rfl; (with_reducible repeat (first | refine blk_drewN ?_ _ | refine blk_drew ?_ | refine blk_alloc ?_ _)); refine blk_put (cs := #[.bool t243, .slice none 0 0, .slice none 0 0]) ?_ 1 _ rfl; (with_reducible repeat (first | refine blk_drewN ?_ _ | refine blk_drew ?_ | refine blk_alloc ?_ _)); refine blk_put (cs := #[.bool false, .slice none 0 0, .slice none 0 0]) ?_ 0 _ rfl; (with_reducible repeat (first | refine blk_drewN ?_ _ | refine blk_drew ?_ | refine blk_alloc ?_ _)); exact BK258.out) hb); have n5_ := Aside0.mk (below_step (bl HB.out) hb); clear HO254; clear HO257; clear BK241; clear BK258; clear HB; have HO254 := n0_; have HO257 := n1_; have HO261 := n2_; have BK241 := n3_; have BK258 := n4_; have HB := n5_; clear n0_ n1_ n2_ n3_ n4_ n5_; (try clear hb); (try clear hb2); (try clear hk); (try clear hi); (try clear ho0); obtain ⟨Ao37, co37, eo37⟩ := Kd.V_slice HO261.out; subst eo37; have hcz38_0 : w36.cell? ⟨gb258, 0, none⟩ = some (.bool t243) := (blk_cell BK258.out 0).trans rfl; have hcz38_1 : w36.cell? ⟨gb258, 1, none⟩ = some (.slice Ao32 t252.length co32) := (blk_cell BK258.out 1).trans rfl; have hcz38_2 : w36.cell? ⟨gb258, 2, none⟩ = some (.slice Ao31 y255.length co31) := (blk_cell BK258.out 2).trans rfl; have hfz38_0 := blk_frozen BK258.out 0; have hfz38_1 := blk_frozen BK258.out 1; have hfz38_2 := blk_frozen BK258.out 2) | ((with_reducible refine gate_callee (f := 102) rfl ?_); refine goesL_ (some 77) rfl rfl Tryz.func102 (by kernel_rfl) rfl #[.agg #[.bool t243, .slice Ao32 t252.length co32, .slice Ao37 t259.length co37]] rfl (by (try simp only [List.map_toArray, List.map_cons, List.map_nil]); first | done | rfl | (simp only [List.length_drop, List.length_take]; rfl)) ?_; (with_reducible refine (exact_number_write.calls kj17 t243 _ _ t252 _ _ t259 t262 t263 t264 _ ?side1 ?side2 ?side3 ?side4 ?side5 A27.out).mono ?_); (case side1 => refine (Kd.V_reads' (e := 69) (base := w.heap.size) (ok := fun k_ => ((k_ ≠ gb241 ∧ some k_ ≠ (.slice Ao31 y255.length co31 : Value).ownBlock) ∧ k_ ≠ gb258)) (n := t252.length) (c := co32) ?_).2.2; exact (by (with_reducible repeat (first | apply Kd.V_alloc | apply Kd.V_drewN | apply Kd.V_drew)); exact (Kd.V_mono (Kd.V_far (p := ⟨gb258, 2, none⟩) (Kd.V_mono HO254.out (fun k_ hk => (⟨hk, hk.2⟩ : _ ∧ k_ ≠ gb258))) (fun _ hk => hk.2) (.slice Ao37 t259.length co37)) (fun _ h_ => h_.1)))); (case side2 => exact (Kd.V_reads' HO254.out).2.1); (case side3 => refine (Kd.V_reads' (e := 69) (base := w.heap.size) (ok := fun k_ => (some k_ ≠ (.slice Ao31 y255.length co31 : Value).ownBlock ∧ (k_ ≠ gb241 ∧ k_ ≠ gb258))) (n := t259.length) (c := co37) ?_).2.2; exact (by (with_reducible repeat (first | apply Kd.V_alloc | apply Kd.V_drewN | apply Kd.V_drew)); exact (Kd.V_mono (Kd.V_far (p := ⟨gb258, 2, none⟩) (Kd.V_mono HO261.out (fun k_ hk => (⟨hk, hk.2.2⟩ : _ ∧ k_ ≠ gb258))) (fun _ hk => hk.2) (.slice Ao37 t259.length co37)) (fun _ h_ => h_.1)))); (case side4 => exact (Kd.V_reads' HO261.out).2.1); (case side5 => first | exact hGl | exact gl_below hGl (bl HB.out)); rintro e w39 ⟨rfl, hb⟩; refine ⟨_, rfl, ?_⟩; have n0_ := Aside0.mk (Kd.V_below (by (with_reducible repeat (first | apply Kd.V_alloc | apply Kd.V_drewN | apply Kd.V_drew)); exact (Kd.V_mono (Kd.V_far (p := ⟨gb258, 2, none⟩) (Kd.V_mono HO254.out (fun k_ hk => (⟨hk, hk.2⟩ : _ ∧ k_ ≠ gb258))) (fun _ hk => hk.2) (.slice Ao37 t259.length co37)) (fun _ h_ => h_.1))) hb); have n1_ := Aside0.mk (Kd.R_below (by (with_reducible repeat (first | apply Kd.R_alloc | apply Kd.R_drewN | apply Kd.R_drew)); exact (Kd.R_mono (Kd.R_far (p := ⟨gb258, 2, none⟩) (Kd.R_types HO257.out BK258.out (by decide)) (fun _ hk => hk.2) (.slice Ao37 t259.length co37)) (fun _ h_ => h_.1))) hb); have n2_ := Aside0.mk (Kd.V_below (by (with_reducible repeat (first | apply Kd.V_alloc | apply Kd.V_drewN | apply Kd.V_drew)); exact (Kd.V_mono (Kd.V_far (p := ⟨gb258, 2, none⟩) (Kd.V_mono HO261.out (fun k_ hk => (⟨hk, hk.2.2⟩ : _ ∧ k_ ≠ gb258))) (fun _ hk => hk.2) (.slice Ao37 t259.length co37)) (fun _ h_ => h_.1))) hb); have n3_ := Aside0.mk (blk_below (g := gb241) (o := .cells #[.string x242000_7, .string x242001_7] 30 (0, 0)) (bf BK241.out) hb); have n4_ := Aside0.mk (blk_below (g := gb258) (o := .cells #[.bool t243, .slice Ao32 t252.length co32, .slice Ao37 t259.length co37] 64 (0, 0)) (by (with_reducible repeat (first | refine blk_drewN ?_ _ | refine blk_drew ?_ | refine blk_alloc ?_ _)); refine blk_put (cs := #[.bool t243, .slice Ao32 t252.length co32, .slice Ao31 y255.length co31]) ?_ 2 _ rfl; (with_reducible repeat (first | refine blk_drewN ?_ _ | refine blk_drew ?_ | refine blk_alloc ?_ _)); exact BK258.out) hb); have n5_ := Aside0.mk (below_step (bl HB.out) hb); clear HO254; clear HO257; clear HO261; clear BK241; clear BK258; clear HB; have HO254 := n0_; have HO257 := n1_; have HO261 := n2_; have BK241 := n3_; have BK258 := n4_; have HB := n5_; clear n0_ n1_ n2_ n3_ n4_ n5_; (try clear hb); (try clear hb2); (try clear hk); (try clear hi); have hcz40_0 : w39.cell? ⟨gb241, 0, none⟩ = some (.string x242000_7) := (blk_cell BK241.out 0).trans rfl; have hcz40_1 : w39.cell? ⟨gb241, 1, none⟩ = some (.string x242001_7) := (blk_cell BK241.out 1).trans rfl; have hfz40_0 := blk_frozen BK241.out 0; have hfz40_1 := blk_frozen BK241.out 1))
         refine bodyPost_ret (results_ct rfl _ _ gb241 30 #[.string t262, .string t263] (0, 0) _ rfl (by (with_reducible repeat (first | refine blk_drewN ?_ _ | refine blk_drew ?_ | refine blk_alloc ?_ _)); refine blk_put (cs := #[.string t262, .string x242001_7]) ?_ 1 _ rfl; (with_reducible repeat (first | refine blk_drewN ?_ _ | refine blk_drew ?_ | refine blk_alloc ?_ _)); refine blk_put (cs := #[.string x242000_7, .string x242001_7]) ?_ 0 _ rfl; (with_reducible repeat (first | refine blk_drewN ?_ _ | refine blk_drew ?_ | refine blk_alloc ?_ _)); exact BK241.out) Tryz.underlying30 rfl (by kernel_rfl)) rfl ?_
         exact ⟨by first | rfl | (simp [errW_none, errW_some] <;> rfl) | (simp [*, errW_none, errW_some] <;> rfl), bl HB.out⟩
        ·rw [if_neg c25] at H
         have c25b0 : decide ((wrap64 (t250 - (x7_7.size : Int))) < 0) = false := decide_eq_false c25
         clear c25
         replace H := Option.bind_eq_some_iff.mp H
         obtain ⟨t265, A410, H⟩ := H
         replace H : ((exact_nat_times.f kj17 t252 t265).bind fun t268 => ((exact_number_write.f kj17 t243 t268 y255).bind fun bt271 => (some (bt271.1, bt271.2.1, bt271.2.2)))) = some (r1, r2, r3) := H
         have A41 := Aside0.mk A410
         clear A410
         replace H := Option.bind_eq_some_iff.mp H
         obtain ⟨t268, A420, H⟩ := H
         replace H : ((exact_number_write.f kj17 t243 t268 y255).bind fun bt271 => (some (bt271.1, bt271.2.1, bt271.2.2))) = some (r1, r2, r3) := H
         have A42 := Aside0.mk A420
         clear A420
         replace H := Option.bind_eq_some_iff.mp H
         obtain ⟨⟨t271, t272, t273⟩, A430, H⟩ := H
         replace H : (some (t271, t272, t273)) = some (r1, r2, r3) := H
         have A43 := Aside0.mk A430
         clear A430
         simp only [Option.some.injEq, Prod.mk.injEq] at H
         obtain ⟨rfl, rfl, rfl⟩ := H
         try go_wp2_with (first | ((with_reducible refine gate_callee (f := 58) rfl ?_); refine goesL_ (some 57) rfl rfl Tryz.func58 (by kernel_rfl) rfl #[.string (t244 ++ x7_7)] rfl (by (try simp only [List.map_toArray, List.map_cons, List.map_nil]); first | done | rfl | (simp only [List.length_drop, List.length_take]; rfl)) ?_; (with_reducible refine (exact_parse.calls kj17 (t244 ++ x7_7) t252 _ ?side1 A24.out).mono ?_); (case side1 => first | exact hGl | exact gl_below hGl (bl HB.out)); rintro e w44 ⟨v253, rfl, ho0, hb⟩; refine ⟨_, rfl, ?_⟩; have n0_ := Aside0.mk (Kd.V_lower (Kd.V_mono (ok' := fun k_ => k_ ≠ gb241) ho0 (fun k_ hk_ => (Kd.freshB (bk BK241.out) k_ hk_))) (below_size (bl HB.out))); have n1_ := Aside0.mk (blk_below (bk BK241.out) hb); have n2_ := Aside0.mk (below_step (bl HB.out) hb); clear BK241; clear HB; have HO254 := n0_; have BK241 := n1_; have HB := n2_; clear n0_ n1_ n2_; (try clear hb); (try clear hb2); (try clear hk); (try clear hi); (try clear ho0)) | ((with_reducible refine gate_dst (N := 58) rfl ?_); refine Kd.R_lit (Kd.int .u32) _ 69 ?hg (N := 58) ?hd (xs := ([1] : List Int)) (inner := [.int .u32 1]) (ok := fun _ => True) (okp := fun _ => True) ?hr ?hp (fun _ hk => hk) trivial (Below.refl _ _) (Nat.le_refl _) (by simp) ?_; (case hd => rfl); (case hg => rfl); (case hr => first | (go_simp; done) | (go_simp; rfl)); (case hp => exact (Reps.one (show Kd.M (Kd.int .u32) _ _ _ 1 [.int .u32 1] from rfl) (Reps.none _ _))); intro v256 w45 ho46 hb hg_ hnew_; clear hg_ hnew_; (first | rw [← Ny255.out] at ho46 | (simp only [Int.reduceToNat] at ho46; rw [← Ny255.out] at ho46)); have n0_ := Aside0.mk (Kd.V_elder' (vl HO254.out) (Kd.R_base ho46) hb); have n1_ := Aside0.mk (Kd.R_lower ho46 (below_size (bl HB.out))); have n2_ := Aside0.mk (blk_below (bk BK241.out) hb); have n3_ := Aside0.mk (below_step (bl HB.out) hb); clear HO254; clear BK241; clear HB; have HO254 := n0_; have HO257 := n1_; have BK241 := n2_; have HB := n3_; clear n0_ n1_ n2_ n3_; clear hb ho46; obtain ⟨Ao47, co47, eo47⟩ := Kd.R_slice HO257.out; subst eo47; obtain ⟨Ao48, co48, eo48⟩ := Kd.V_slice HO254.out; subst eo48) | ((with_reducible refine gate_dst (N := 12) rfl ?_); refine box_event ?hg (N := 12) ?hd (cs := #[.bool false, .slice none 0 0, .slice none 0 0]) (t := 64) ?hr ?_; (case hd => rfl); (case hg => rfl); (case hr => first | (go_simp; done) | (go_simp; rfl)); intro gb258 hg w49 hbox hb; have n0_ := Aside0.mk (Kd.V_below (Kd.V_elderB (vl HO254.out) gb258 (Nat.le_of_eq hg.symm)) hb); have n1_ := Aside0.mk (Kd.R_below (rl HO257.out) hb); have n2_ := Aside0.mk (blk_below (bk BK241.out) hb); have n3_ := Aside0.mk (below_step (bl HB.out) hb); have n4_ := Aside0.mk (hbox); have n5_ := Aside0.mk (szg hg (bl HB.out)); have n6_ := Aside0.mk (szg hg (bl HB.out)); have n7_ := Aside0.mk (ntl hg (bk BK241.out)); have n8_ := Aside0.mk (ntg hg (bk BK241.out)); clear HO254; clear HO257; clear BK241; clear HB; have HO254 := n0_; have HO257 := n1_; have BK241 := n2_; have HB := n3_; have BK258 := n4_; have GW258 := n5_; have GE258 := n6_; have NB241_258 := n7_; have NB258_241 := n8_; clear n0_ n1_ n2_ n3_ n4_ n5_ n6_ n7_ n8_; clear hb hbox hg; have hnb50 := NB258_241.out; have hnc50 := NB241_258.out; have hcz51_0 : w49.cell? ⟨gb258, 0, none⟩ = some (.bool false) := (blk_cell BK258.out 0).trans rfl; have hcz51_1 : w49.cell? ⟨gb258, 1, none⟩ = some (.slice none 0 0) := (blk_cell BK258.out 1).trans rfl; have hcz51_2 : w49.cell? ⟨gb258, 2, none⟩ = some (.slice none 0 0) := (blk_cell BK258.out 2).trans rfl; have hfz51_0 := blk_frozen BK258.out 0; have hfz51_1 := blk_frozen BK258.out 1; have hfz51_2 := blk_frozen BK258.out 2))
         have n0_ : Aside0 (Kd.V (Kd.int .u32) 69 (((w49.setCell ⟨gb258, 0, none⟩ (.bool t243)).setCell ⟨gb258, 1, none⟩ (.slice Ao48 t252.length co48)).setCell ⟨gb258, 2, none⟩ (.slice Ao47 y255.length co47)) w.heap.size (fun k_ => some k_ ≠ (.slice Ao47 y255.length co47 : Value).ownBlock ∧ k_ ≠ gb241 ∧ k_ ≠ gb258) (.slice Ao48 t252.length co48) t252) := ⟨by (with_reducible repeat (first | apply Kd.V_alloc | apply Kd.V_drewN | apply Kd.V_drew)); exact Kd.V_mono (Kd.V_far (p := ⟨gb258, 2, none⟩) (Kd.V_far (p := ⟨gb258, 1, none⟩) (Kd.V_far (p := ⟨gb258, 0, none⟩) (Kd.V_mono HO254.out (fun k_ hk => (⟨hk, hk.2⟩ : _ ∧ k_ ≠ gb258))) (fun _ hk => hk.2) (.bool t243)) (fun _ hk => hk.2) (.slice Ao48 t252.length co48)) (fun _ hk => hk.2) (.slice Ao47 y255.length co47)) (fun _ hk => ⟨hk.1.1.2, ⟨hk.1.1.1, hk.1.2⟩⟩)⟩
         have n1_ : Aside0 (Kd.R (Kd.int .u32) 69 (((w49.setCell ⟨gb258, 0, none⟩ (.bool t243)).setCell ⟨gb258, 1, none⟩ (.slice Ao48 t252.length co48)).setCell ⟨gb258, 2, none⟩ (.slice Ao47 y255.length co47)) w.heap.size (fun _ => True) (.slice Ao47 y255.length co47) y255) := ⟨by (with_reducible repeat (first | apply Kd.R_alloc | apply Kd.R_drewN | apply Kd.R_drew)); exact Kd.R_mono (Kd.R_far (p := ⟨gb258, 2, none⟩) (Kd.R_far (p := ⟨gb258, 1, none⟩) (Kd.R_far (p := ⟨gb258, 0, none⟩) (Kd.R_types HO257.out BK258.out (by decide)) (fun _ hk => hk.2) (.bool t243)) (fun _ hk => hk.2) (.slice Ao48 t252.length co48)) (fun _ hk => hk.2) (.slice Ao47 y255.length co47)) (fun _ hk => trivial)⟩
         have n2_ : Aside0 ((((w49.setCell ⟨gb258, 0, none⟩ (.bool t243)).setCell ⟨gb258, 1, none⟩ (.slice Ao48 t252.length co48)).setCell ⟨gb258, 2, none⟩ (.slice Ao47 y255.length co47)).heap[gb241]? = some (.cells #[.string x242000_7, .string x242001_7] 30 (0, 0))) := ⟨bf BK241.out⟩
         have n3_ : Aside0 ((((w49.setCell ⟨gb258, 0, none⟩ (.bool t243)).setCell ⟨gb258, 1, none⟩ (.slice Ao48 t252.length co48)).setCell ⟨gb258, 2, none⟩ (.slice Ao47 y255.length co47)).heap[gb258]? = some (.cells #[.bool t243, .slice Ao48 t252.length co48, .slice Ao47 y255.length co47] 64 (0, 0))) := ⟨by (with_reducible repeat (first | refine blk_drewN ?_ _ | refine blk_drew ?_ | refine blk_alloc ?_ _)); refine blk_put (cs := #[.bool t243, .slice Ao48 t252.length co48, .slice none 0 0]) ?_ 2 _ rfl; (with_reducible repeat (first | refine blk_drewN ?_ _ | refine blk_drew ?_ | refine blk_alloc ?_ _)); refine blk_put (cs := #[.bool t243, .slice none 0 0, .slice none 0 0]) ?_ 1 _ rfl; (with_reducible repeat (first | refine blk_drewN ?_ _ | refine blk_drew ?_ | refine blk_alloc ?_ _)); refine blk_put (cs := #[.bool false, .slice none 0 0, .slice none 0 0]) ?_ 0 _ rfl; (with_reducible repeat (first | refine blk_drewN ?_ _ | refine blk_drew ?_ | refine blk_alloc ?_ _)); exact BK258.out⟩
         have n4_ : Aside0 (Below w.heap.size w (((w49.setCell ⟨gb258, 0, none⟩ (.bool t243)).setCell ⟨gb258, 1, none⟩ (.slice Ao48 t252.length co48)).setCell ⟨gb258, 2, none⟩ (.slice Ao47 y255.length co47))) := ⟨bl HB.out⟩
         (try clear HO254)
         (try clear HO257)
         (try clear BK241)
         (try clear BK258)
         (try clear HB)
         generalize (((w49.setCell ⟨gb258, 0, none⟩ (.bool t243)).setCell ⟨gb258, 1, none⟩ (.slice Ao48 t252.length co48)).setCell ⟨gb258, 2, none⟩ (.slice Ao47 y255.length co47)) = w52 at n0_ n1_ n2_ n3_ n4_ ⊢
         have HO254 := n0_
         have HO257 := n1_
         have BK241 := n2_
         have BK258 := n3_
         have HB := n4_
         clear n0_ n1_ n2_ n3_ n4_
         have n0_ := Aside0.mk (Kd.V_drew HO254.out)
         have n1_ := Aside0.mk (Kd.R_drew HO257.out)
         have n2_ := Aside0.mk (blk_drew BK241.out)
         have n3_ := Aside0.mk (blk_drew BK258.out)
         have n4_ := Aside0.mk (below_drew1 HB.out)
         clear HO254
         clear HO257
         clear BK241
         clear BK258
         clear HB
         have HO254 := n0_
         have HO257 := n1_
         have BK241 := n2_
         have BK258 := n3_
         have HB := n4_
         clear n0_ n1_ n2_ n3_ n4_
         refine start_ (n := 7) (S := fun w' => w'.cell? ⟨gb258, 0, none⟩ = some (.bool t243) ∧ w'.cell? ⟨gb258, 1, none⟩ = some (.slice Ao48 t252.length co48) ∧ w'.cell? ⟨gb258, 2, none⟩ = some (.slice Ao47 y255.length co47)) (ds := [6]) #[false, false, false, false, false, false, false] (by kernel_rfl) rfl rfl ⟨(blk_cell BK258.out 0).trans rfl, (blk_cell BK258.out 1).trans rfl, (blk_cell BK258.out 2).trans rfl⟩ (fun hHeld => ?_)
         generalize w52.drew = w53 at HO254 HO257 BK241 BK258 HB hHeld ⊢
         refine pure_ (i := 0) (N := some 70) (v := ?_) (a' := ?_) #[true, false, false, false, false, false, false] rfl rfl (by kernel_rfl) (fun _ _ _ h => h) (Or.inl ⟨by rfl, ?_⟩) ?_ ?_
         rotate_left
         ·intro w'
          go_simp
          with_reducible rfl
         rotate_left
         ·simp only [Act.put, List.setIfInBounds_toArray, List.set_cons_zero, List.set_cons_succ, i64_w, i32_w]
          rfl
         refine pure_ (i := 2) (N := some 72) (v := ?_) (a' := ?_) #[true, false, true, false, false, false, false] rfl rfl (by kernel_rfl) (fun _ _ _ h => h) (Or.inl ⟨by rfl, ?_⟩) ?_ ?_
         rotate_left
         ·intro w'
          go_simp
          with_reducible rfl
         rotate_left
         ·simp only [Act.put, List.setIfInBounds_toArray, List.set_cons_zero, List.set_cons_succ, i64_w, i32_w]
          rfl
         refine take_ (i := 1) (N := some 71) (v := ?_) (a' := ?_) #[true, true, true, false, false, false, false] rfl rfl (by kernel_rfl) (fun _ _ _ h => h) (Or.inl ⟨by rfl, ?_⟩) hHeld ?_ ?_
         rotate_left
         ·rintro w' ⟨s0, s1, s2⟩
          go_simp
          with_reducible rfl
         rotate_left
         ·simp only [Act.put, List.setIfInBounds_toArray, List.set_cons_zero, List.set_cons_succ, i64_w, i32_w]
          rfl
         refine one_ (i := 3) (N := some 73) #[true, true, true, true, false, false, false] rfl rfl (by kernel_rfl) (by decide) (fun K hK => ?_)
         refine goes_ Tryz.func37 (by kernel_rfl) rfl #[.int .i64 (wrap64 (t250 - (x7_7.size : Int)))] (by rfl) rfl rfl (by (try simp only [List.map_toArray, List.map_cons, List.map_nil]); first | done | rfl | (simp only [List.length_drop, List.length_take]; rfl)) ?_
         with_reducible refine (exact_ten.calls kj17 (wrap64 (t250 - (x7_7.size : Int))) t265 _ ?side1 A41.out).mono ?_
         (case side1 => first | exact hGl | exact gl_below hGl (bl HB.out))
         rintro e w54 ⟨v266, rfl, ho0, hb⟩
         refine ⟨_, rfl, ?_⟩
         have n0_ := Aside0.mk (Kd.V_below (vl HO254.out) hb)
         have n1_ := Aside0.mk (Kd.R_below (rl HO257.out) hb)
         have n2_ := Aside0.mk (Kd.V_lower (Kd.V_mono (ok' := fun k_ => some k_ ≠ (.slice Ao47 y255.length co47 : Value).ownBlock ∧ k_ ≠ gb241 ∧ k_ ≠ gb258) ho0 (fun k_ hk_ => ⟨(Kd.fresh' (Kd.R_lt (rl HO257.out)) k_ hk_), (Kd.freshB (bk BK241.out) k_ hk_), (Kd.freshB (bk BK258.out) k_ hk_)⟩)) (below_size (bl HB.out)))
         have n3_ := Aside0.mk (blk_below (bk BK241.out) hb)
         have n4_ := Aside0.mk (blk_below (bk BK258.out) hb)
         have n5_ := Aside0.mk (below_step (bl HB.out) hb)
         clear HO254
         clear HO257
         clear BK241
         clear BK258
         clear HB
         have HO254 := n0_
         have HO257 := n1_
         have HO267 := n2_
         have BK241 := n3_
         have BK258 := n4_
         have HB := n5_
         clear n0_ n1_ n2_ n3_ n4_ n5_
         (try clear hb)
         (try clear hb2)
         (try clear hk)
         (try clear hi)
         (try clear ho0)
         obtain ⟨Ao55, co55, eo55⟩ := Kd.V_slice HO267.out
         (first | subst eo55 | (injection eo55 with f1_ f2_ f3_; have f4_ := f1_.symm; have f5_ := f3_.symm; clear f1_ f2_ f3_; subst f4_; subst f5_))
         refine hK.out _ _ ⟨(blk_cell BK258.out 0).trans rfl, (blk_cell BK258.out 1).trans rfl, (blk_cell BK258.out 2).trans rfl⟩ (fun hHeld => ?_)
         clear hK K
         refine norm_ (a' := ?_) ?_ ?_
         rotate_left
         ·show Act.put _ (some 73) _ = _
          simp only [Act.put, List.setIfInBounds_toArray, List.set_cons_zero, List.set_cons_succ, i64_w, i32_w]
          rfl
         refine one_ (i := 4) (N := some 74) #[true, true, true, true, true, false, false] rfl rfl (by kernel_rfl) (by decide) (fun K hK => ?_)
         refine goes_ Tryz.func36 (by kernel_rfl) rfl #[.slice Ao48 t252.length co48, .slice Ao55 t265.length co55] (by rfl) rfl rfl (by (try simp only [List.map_toArray, List.map_cons, List.map_nil]); first | done | rfl | (simp only [List.length_drop, List.length_take]; rfl)) ?_
         with_reducible refine (exact_nat_times.calls kj17 _ _ t252 _ _ t265 t268 _ ?side1 ?side2 ?side3 ?side4 ?side5 A42.out).mono ?_
         (case side1 => repeat (first | exact (Kd.V_reads' HO254.out).2.2 | (with_reducible refine Kd.C_alloc ?_ _) | (with_reducible refine Kd.C_drewN ?_ _) | (with_reducible refine Kd.C_drew ?_)))
         (case side2 => exact (Kd.V_reads' HO254.out).2.1)
         (case side3 => repeat (first | exact (Kd.V_reads' HO267.out).2.2 | (with_reducible refine Kd.C_alloc ?_ _) | (with_reducible refine Kd.C_drewN ?_ _) | (with_reducible refine Kd.C_drew ?_)))
         (case side4 => exact (Kd.V_reads' HO267.out).2.1)
         (case side5 => first | exact hGl | exact gl_below hGl (bl HB.out))
         rintro e w56 ⟨v269, rfl, ho0, hb⟩
         refine ⟨_, rfl, ?_⟩
         have n0_ := Aside0.mk (Kd.V_below (vl HO254.out) hb)
         have n1_ := Aside0.mk (Kd.R_below (rl HO257.out) hb)
         have n2_ := Aside0.mk (Kd.V_below (vl HO267.out) hb)
         have n3_ := Aside0.mk (Kd.V_lower (Kd.V_mono (ok' := fun k_ => some k_ ≠ (.slice Ao47 y255.length co47 : Value).ownBlock ∧ k_ ≠ gb241 ∧ k_ ≠ gb258) ho0 (fun k_ hk_ => ⟨(Kd.fresh' (Kd.R_lt (rl HO257.out)) k_ hk_), (Kd.freshB (bk BK241.out) k_ hk_), (Kd.freshB (bk BK258.out) k_ hk_)⟩)) (below_size (bl HB.out)))
         have n4_ := Aside0.mk (blk_below (bk BK241.out) hb)
         have n5_ := Aside0.mk (blk_below (bk BK258.out) hb)
         have n6_ := Aside0.mk (below_step (bl HB.out) hb)
         clear HO254
         clear HO257
         clear HO267
         clear BK241
         clear BK258
         clear HB
         have HO254 := n0_
         have HO257 := n1_
         have HO267 := n2_
         have HO270 := n3_
         have BK241 := n4_
         have BK258 := n5_
         have HB := n6_
         clear n0_ n1_ n2_ n3_ n4_ n5_ n6_
         (try clear hb)
         (try clear hb2)
         (try clear hk)
         (try clear hi)
         (try clear ho0)
         obtain ⟨Ao57, co57, eo57⟩ := Kd.V_slice HO270.out
         (first | subst eo57 | (injection eo57 with f1_ f2_ f3_; have f4_ := f1_.symm; have f5_ := f3_.symm; clear f1_ f2_ f3_; subst f4_; subst f5_))
         refine hK.out _ _ ⟨(blk_cell BK258.out 0).trans rfl, (blk_cell BK258.out 1).trans rfl, (blk_cell BK258.out 2).trans rfl⟩ (fun hHeld => ?_)
         clear hK K
         refine norm_ (a' := ?_) ?_ ?_
         rotate_left
         ·show Act.put _ (some 74) _ = _
          simp only [Act.put, List.setIfInBounds_toArray, List.set_cons_zero, List.set_cons_succ, i64_w, i32_w]
          rfl
         refine pure_ (i := 5) (N := some 75) (v := ?_) (a' := ?_) #[true, true, true, true, true, true, false] rfl rfl (by kernel_rfl) (fun _ _ _ h => h) (Or.inl ⟨by rfl, ?_⟩) ?_ ?_
         rotate_left
         ·intro w'
          go_simp
          with_reducible rfl
         rotate_left
         ·simp only [Act.put, List.setIfInBounds_toArray, List.set_cons_zero, List.set_cons_succ, i64_w, i32_w]
          rfl
         refine last_ (i := 6) (N := none) #[true, true, true, true, true, true, true] rfl rfl (by kernel_rfl) (by decide) (fun K hK => ?_)
         have hs58 : w56.cell? ⟨gb258, 1, none⟩ = some (.slice Ao48 t252.length co48) := (blk_cell BK258.out 1).trans rfl
         have hfs58 := blk_frozen BK258.out 1
         have hns58_0 := NB241_258.out
         have hms58_0 := NB258_241.out
         refine skip_ (w1 := ?_) (by rfl) rfl ?_ ?_
         rotate_left
         ·go_simp
          rfl
         refine hK.out _ _ ?_
         clear hK K
         refine done_ (by kernel_rfl) ?_
         have hcz59_0 : w56.cell? ⟨gb258, 0, none⟩ = some (.bool t243) := (blk_cell BK258.out 0).trans rfl
         have hcz59_1 : w56.cell? ⟨gb258, 1, none⟩ = some (.slice Ao48 t252.length co48) := (blk_cell BK258.out 1).trans rfl
         have hcz59_2 : w56.cell? ⟨gb258, 2, none⟩ = some (.slice Ao47 y255.length co47) := (blk_cell BK258.out 2).trans rfl
         have hfz59_0 := blk_frozen BK258.out 0
         have hfz59_1 := blk_frozen BK258.out 1
         have hfz59_2 := blk_frozen BK258.out 2
         try go_wp2_with (first | ((with_reducible refine gate_callee (f := 102) rfl ?_); refine goesL_ (some 77) rfl rfl Tryz.func102 (by kernel_rfl) rfl #[.agg #[.bool t243, .slice Ao57 t268.length co57, .slice Ao47 y255.length co47]] rfl (by (try simp only [List.map_toArray, List.map_cons, List.map_nil]); first | done | rfl | (simp only [List.length_drop, List.length_take]; rfl)) ?_; (with_reducible refine (exact_number_write.calls kj17 t243 _ _ t268 _ _ y255 t271 t272 t273 _ ?side1 ?side2 ?side3 ?side4 ?side5 A43.out).mono ?_); (case side1 => refine (Kd.V_reads' (e := 69) (base := w.heap.size) (ok := fun k_ => (some k_ ≠ (.slice Ao47 y255.length co47 : Value).ownBlock ∧ (k_ ≠ gb241 ∧ k_ ≠ gb258))) (n := t268.length) (c := co57) ?_).2.2; exact (by (with_reducible repeat (first | apply Kd.V_alloc | apply Kd.V_drewN | apply Kd.V_drew)); exact (Kd.V_mono (Kd.V_far (p := ⟨gb258, 1, none⟩) (Kd.V_mono HO270.out (fun k_ hk => (⟨hk, hk.2.2⟩ : _ ∧ k_ ≠ gb258))) (fun _ hk => hk.2) (.slice Ao57 t268.length co57)) (fun _ h_ => h_.1)))); (case side2 => exact (Kd.V_reads' HO270.out).2.1); (case side3 => refine (Kd.R_reads' (e := 69) (base := w.heap.size) (ok := fun k_ => True) (n := y255.length) (c := co47) ?_).2.2; exact (by (with_reducible repeat (first | apply Kd.R_alloc | apply Kd.R_drewN | apply Kd.R_drew)); exact (Kd.R_mono (Kd.R_far (p := ⟨gb258, 1, none⟩) (Kd.R_types HO257.out BK258.out (by decide)) (fun _ hk => hk.2) (.slice Ao57 t268.length co57)) (fun _ h_ => h_.1)))); (case side4 => exact (Kd.R_reads' HO257.out).2.1); (case side5 => first | exact hGl | exact gl_below hGl (bl HB.out)); rintro e w60 ⟨rfl, hb⟩; refine ⟨_, rfl, ?_⟩; have n0_ := Aside0.mk (Kd.V_below (by (with_reducible repeat (first | apply Kd.V_alloc | apply Kd.V_drewN | apply Kd.V_drew)); exact (Kd.V_mono (Kd.V_far (p := ⟨gb258, 1, none⟩) (Kd.V_mono HO254.out (fun k_ hk => (⟨hk, hk.2.2⟩ : _ ∧ k_ ≠ gb258))) (fun _ hk => hk.2) (.slice Ao57 t268.length co57)) (fun _ h_ => h_.1))) hb); have n1_ := Aside0.mk (Kd.R_below (by (with_reducible repeat (first | apply Kd.R_alloc | apply Kd.R_drewN | apply Kd.R_drew)); exact (Kd.R_mono (Kd.R_far (p := ⟨gb258, 1, none⟩) (Kd.R_types HO257.out BK258.out (by decide)) (fun _ hk => hk.2) (.slice Ao57 t268.length co57)) (fun _ h_ => h_.1))) hb); have n2_ := Aside0.mk (Kd.V_below (by (with_reducible repeat (first | apply Kd.V_alloc | apply Kd.V_drewN | apply Kd.V_drew)); exact (Kd.V_mono (Kd.V_far (p := ⟨gb258, 1, none⟩) (Kd.V_mono HO267.out (fun k_ hk => (⟨hk, hk.2.2⟩ : _ ∧ k_ ≠ gb258))) (fun _ hk => hk.2) (.slice Ao57 t268.length co57)) (fun _ h_ => h_.1))) hb); have n3_ := Aside0.mk (Kd.V_below (by (with_reducible repeat (first | apply Kd.V_alloc | apply Kd.V_drewN | apply Kd.V_drew)); exact (Kd.V_mono (Kd.V_far (p := ⟨gb258, 1, none⟩) (Kd.V_mono HO270.out (fun k_ hk => (⟨hk, hk.2.2⟩ : _ ∧ k_ ≠ gb258))) (fun _ hk => hk.2) (.slice Ao57 t268.length co57)) (fun _ h_ => h_.1))) hb); have n4_ := Aside0.mk (blk_below (g := gb241) (o := .cells #[.string x242000_7, .string x242001_7] 30 (0, 0)) (bf BK241.out) hb); have n5_ := Aside0.mk (blk_below (g := gb258) (o := .cells #[.bool t243, .slice Ao57 t268.length co57, .slice Ao47 y255.length co47] 64 (0, 0)) (by (with_reducible repeat (first | refine blk_drewN ?_ _ | refine blk_drew ?_ | refine blk_alloc ?_ _)); refine blk_put (cs := #[.bool t243, .slice Ao48 t252.length co48, .slice Ao47 y255.length co47]) ?_ 1 _ rfl; (with_reducible repeat (first | refine blk_drewN ?_ _ | refine blk_drew ?_ | refine blk_alloc ?_ _)); exact BK258.out) hb); have n6_ := Aside0.mk (below_step (bl HB.out) hb); clear HO254; clear HO257; clear HO267; clear HO270; clear BK241; clear BK258; clear HB; have HO254 := n0_; have HO257 := n1_; have HO267 := n2_; have HO270 := n3_; have BK241 := n4_; have BK258 := n5_; have HB := n6_; clear n0_ n1_ n2_ n3_ n4_ n5_ n6_; (try clear hb); (try clear hb2); (try clear hk); (try clear hi); have hcz61_0 : w60.cell? ⟨gb241, 0, none⟩ = some (.string x242000_7) := (blk_cell BK241.out 0).trans rfl; have hcz61_1 : w60.cell? ⟨gb241, 1, none⟩ = some (.string x242001_7) := (blk_cell BK241.out 1).trans rfl; have hfz61_0 := blk_frozen BK241.out 0; have hfz61_1 := blk_frozen BK241.out 1))
         refine bodyPost_ret (results_ct rfl _ _ gb241 30 #[.string t271, .string t272] (0, 0) _ rfl (by (with_reducible repeat (first | refine blk_drewN ?_ _ | refine blk_drew ?_ | refine blk_alloc ?_ _)); refine blk_put (cs := #[.string t271, .string x242001_7]) ?_ 1 _ rfl; (with_reducible repeat (first | refine blk_drewN ?_ _ | refine blk_drew ?_ | refine blk_alloc ?_ _)); refine blk_put (cs := #[.string x242000_7, .string x242001_7]) ?_ 0 _ rfl; (with_reducible repeat (first | refine blk_drewN ?_ _ | refine blk_drew ?_ | refine blk_alloc ?_ _)); exact BK241.out) Tryz.underlying30 rfl (by kernel_rfl)) rfl ?_
         exact ⟨by first | rfl | (simp [errW_none, errW_some] <;> rfl) | (simp [*, errW_none, errW_some] <;> rfl), bl HB.out⟩
       ·rw [if_neg c23] at H
        exact absurd H (by simp)
end Go.Proofs.YtckfdhnimmaeiaaGreatDoor.Pr
