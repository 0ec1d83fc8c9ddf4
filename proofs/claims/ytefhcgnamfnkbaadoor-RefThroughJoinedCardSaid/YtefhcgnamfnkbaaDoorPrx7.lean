-- Written by a program of this session (wip/tools) for this claim.
import Derived.Test.YtefhcgnamfnkbaaDoorPrx0
import Derived.Test.YtefhcgnamfnkbaaDoorPrx2
import Derived.Test.YtefhcgnamfnkbaaDoorPrx4
import Derived.Test.YtefhcgnamfnkbaaDoorPrx6
import Derived.Test.YtefhcgnamfnkbaaDoorRefs
namespace Go.Proofs.YtefhcgnamfnkbaaDoor.Pr
open Go.RowKit Go.Proofs.YtefhcgnamfnkbaaDoorW.PrintWords Go.Proofs.YtefhcgnamfnkbaaDoorW.PrintLast Go.Proofs.YtefhcgnamfnkbaaDoorW.PrintMore
attribute [local go_sem] max2_int min2_int max_two min_two max_three min_three max_four min_four   -- for this text's walks alone
set_option linter.unusedVariables false
set_option linter.unusedSimpArgs false

/-! ### chancerykeep2_mod: function 13 -/
def chancerykeep2_mod.f (a0 : Int) (a1 : Int) : Option (Int) := if a1 = 0 then (none) else (some (Int.tmod (wrap64 ((Int.tmod a0 a1) + a1)) a1))
set_option maxHeartbeats 8000000 in
set_option maxRecDepth 100000 in
theorem chancerykeep2_mod.calls (a0 : Int) (a1 : Int) (r : Int) (w : World) (hGl : Gl w) (h : chancerykeep2_mod.f a0 a1 = some r) :
    Calls Tryd.prog 13 #[.int .i64 a0, .int .i64 a1] w fun e w' => e = .returned (.int .i64 r) ∧ Drawn0 w w' := by
 have H : (if a1 = 0 then (none) else (some (Int.tmod (wrap64 ((Int.tmod a0 a1) + a1)) a1))) = some r := h
 clear h
 by_cases c3 : a1 = 0
 ·rw [if_pos c3] at H
  exact absurd H (by simp)
 ·rw [if_neg c3] at H
  have c3b0 : (a1 == 0) = false := beq_eq_false_iff_ne.mpr c3
  have c3b1 : (a1 != 0) = true := bne_iff_ne.mpr c3
  obtain rfl := Option.some.inj H
  go_enter Tryd.func13, Tryd.ntmps13
  go_wp2
  go_ret
  exact ⟨by first | rfl | (simp; done) | (simp [*]; done) | (simp [isE]; done), by repeat (first | exact Drawn0.refl _ | apply Drawn0.step)⟩

/-! ### cellref_Letters: function 17 -/
def cellref_Letters.f (k : Nat) (a0 : Int) : Option (ByteArray × Int) := (cellref_permitted.f a0).bind fun t154 => (if t154 = true then ((cellref_letters.f k a0).bind fun t155 => (some (t155, 0))) else (some ((⟨#[]⟩ : ByteArray), 2)))
theorem cellref_Letters.mono : ∀ a0 k, LeO (cellref_Letters.f k a0) (cellref_Letters.f (k + 1) a0) := by
  intro a0 k
  unfold cellref_Letters.f
  repeat' first
      | (with_reducible exact cellref_letters.mono _ _)
      | (with_reducible exact LeO.refl _)
      | (with_reducible exact LeO.none _)
      | (with_reducible refine LeO.ite ?_ ?_)
      | (with_reducible refine LeO.bind ?_ (fun _ => ?_))
      | exact cellref_letters.mono _ _
      | exact LeO.none _
      | refine LeO.ite ?_ ?_
      | refine LeO.bind ?_ (fun _ => ?_)
set_option maxHeartbeats 8000000 in
set_option maxRecDepth 100000 in
theorem cellref_Letters.calls (k : Nat) (a0 : Int) (r1 : ByteArray) (r2 : Int) (w : World) (hGl : Gl w) (h : cellref_Letters.f k a0 = some (r1, r2)) :
    Calls Tryd.prog 17 #[.int .i64 a0] w fun e w' => e = .returned (.tuple #[.string r1, .int .i64 r2]) ∧ Below w.heap.size w w' := by
 have HB := Aside0.mk (Below.refl w.heap.size w)
 have H : ((cellref_permitted.f a0).bind fun t154 => (if t154 = true then ((cellref_letters.f k a0).bind fun t155 => (some (t155, 0))) else (some ((⟨#[]⟩ : ByteArray), 2)))) = some (r1, r2) := h
 clear h
 replace H := Option.bind_eq_some_iff.mp H
 obtain ⟨t154, A20, H⟩ := H
 replace H : (if t154 = true then ((cellref_letters.f k a0).bind fun t155 => (some (t155, 0))) else (some ((⟨#[]⟩ : ByteArray), 2))) = some (r1, r2) := H
 have A2 := Aside0.mk A20
 clear A20
 by_cases c3 : t154 = true
 ·subst c3
  have H1 : ((cellref_letters.f k a0).bind fun t155 => (some (t155, 0))) = some (r1, r2) := by rw [if_pos rfl] at H; exact H
  clear H
  have H := H1
  clear H1
  replace H := Option.bind_eq_some_iff.mp H
  obtain ⟨t155, A40, H⟩ := H
  replace H : (some (t155, 0)) = some (r1, r2) := H
  have A4 := Aside0.mk A40
  clear A40
  simp only [Option.some.injEq, Prod.mk.injEq] at H
  obtain ⟨rfl, rfl⟩ := H
  go_enter Tryd.func17, Tryd.ntmps17
  go_wp2_with (first | ((with_reducible refine gate_callee (f := 42) rfl ?_); refine goesL_ (some 5) rfl rfl Tryd.func42 (by kernel_rfl) rfl #[.int .i64 a0] rfl (by (try simp only [List.map_toArray, List.map_cons, List.map_nil]); first | done | rfl | (simp only [List.length_drop, List.length_take]; rfl)) ?_; (with_reducible refine (cellref_permitted.calls a0 true _ ?side1 A2.out).mono ?_); (case side1 => first | exact hGl | exact gl_below hGl (bl HB.out)); rintro e w' ⟨rfl, ⟨nd, rfl⟩⟩; refine ⟨_, rfl, ?_⟩) | ((with_reducible refine gate_callee (f := 43) rfl ?_); refine goesL_ (some 8) rfl rfl Tryd.func43 (by kernel_rfl) rfl #[.int .i64 a0] rfl (by (try simp only [List.map_toArray, List.map_cons, List.map_nil]); first | done | rfl | (simp only [List.length_drop, List.length_take]; rfl)) ?_; (with_reducible refine (cellref_letters.calls k a0 t155 _ ?side1 A4.out).mono ?_); (case side1 => first | exact hGl | exact gl_below hGl (bl HB.out)); rintro e w5 ⟨rfl, hb⟩; refine ⟨_, rfl, ?_⟩; have n0_ := Aside0.mk (below_step (bl HB.out) hb); clear HB; have HB := n0_; clear n0_; (try clear hb); (try clear hb2); (try clear hk); (try clear hi)))
  go_ret2
  exact ⟨by first | rfl | (simp [errW_none, errW_some] <;> rfl) | (simp [*, errW_none, errW_some] <;> rfl), bl HB.out⟩
 ·replace c3 := Bool.eq_false_iff.mpr c3
  subst c3
  have H1 : (some ((⟨#[]⟩ : ByteArray), 2)) = some (r1, r2) := by rw [if_neg (show ¬ (false = true) by decide)] at H; exact H
  clear H
  have H := H1
  clear H1
  simp only [Option.some.injEq, Prod.mk.injEq] at H
  obtain ⟨rfl, rfl⟩ := H
  go_enter Tryd.func17, Tryd.ntmps17
  go_wp2_with (first | ((with_reducible refine gate_callee (f := 42) rfl ?_); refine goesL_ (some 5) rfl rfl Tryd.func42 (by kernel_rfl) rfl #[.int .i64 a0] rfl (by (try simp only [List.map_toArray, List.map_cons, List.map_nil]); first | done | rfl | (simp only [List.length_drop, List.length_take]; rfl)) ?_; (with_reducible refine (cellref_permitted.calls a0 false _ ?side1 A2.out).mono ?_); (case side1 => first | exact hGl | exact gl_below hGl (bl HB.out)); rintro e w' ⟨rfl, ⟨nd, rfl⟩⟩; refine ⟨_, rfl, ?_⟩))
  go_ret2
  exact ⟨by first | rfl | (simp [errW_none, errW_some] <;> rfl) | (simp [*, errW_none, errW_some] <;> rfl), bl HB.out⟩

/-! ### chancerykeep2_RefColumnsBack: function 6 -/
def chancerykeep2_RefColumnsBack.f (k : Nat) (a0 : Int) : Option (Bool) := (chancerykeep2_refs.f).bind fun t156 => (if t156 = true then ((chancerykeep2_mod.f a0 1073741823).bind fun t157 => ((cellref_Letters.f k t157).bind fun bt158 => ((cellref_Letters.f k (wrap64 (t157 + 1))).bind fun bt160 => ((cellref_Column.f k bt158.1).bind fun bt162 => (if bt158.2 = 0 then (if bt160.2 = 0 then (if bt162.2 = 0 then (if bt162.1 = t157 then (if (bt158.1.size : Int) < (bt160.1.size : Int) then (some true) else (if (bt158.1.size : Int) = (bt160.1.size : Int) then (some (Op.bytesLess bt158.1.toList bt160.1.toList)) else (some false))) else (some false)) else (some false)) else (some false)) else (some false)))))) else (some false))
theorem chancerykeep2_RefColumnsBack.mono : ∀ a0 k, LeO (chancerykeep2_RefColumnsBack.f k a0) (chancerykeep2_RefColumnsBack.f (k + 1) a0) := by
  intro a0 k
  unfold chancerykeep2_RefColumnsBack.f
  repeat' first
      | (with_reducible exact cellref_Column.mono _ _)
      | (with_reducible exact cellref_Letters.mono _ _)
      | (with_reducible exact LeO.refl _)
      | (with_reducible exact LeO.none _)
      | (with_reducible refine LeO.ite ?_ ?_)
      | (with_reducible refine LeO.bind ?_ (fun _ => ?_))
      | exact cellref_Column.mono _ _
      | exact cellref_Letters.mono _ _
      | exact LeO.none _
      | refine LeO.ite ?_ ?_
      | refine LeO.bind ?_ (fun _ => ?_)
set_option maxHeartbeats 8000000 in
set_option maxRecDepth 100000 in
theorem chancerykeep2_RefColumnsBack.calls (k : Nat) (a0 : Int) (r : Bool) (w : World) (hGl : Gl w) (h : chancerykeep2_RefColumnsBack.f k a0 = some r) :
    Calls Tryd.prog 6 #[.int .i64 a0] w fun e w' => e = .returned (.bool r) ∧ Below w.heap.size w w' := by
 have HB := Aside0.mk (Below.refl w.heap.size w)
 have H : ((chancerykeep2_refs.f).bind fun t156 => (if t156 = true then ((chancerykeep2_mod.f a0 1073741823).bind fun t157 => ((cellref_Letters.f k t157).bind fun bt158 => ((cellref_Letters.f k (wrap64 (t157 + 1))).bind fun bt160 => ((cellref_Column.f k bt158.1).bind fun bt162 => (if bt158.2 = 0 then (if bt160.2 = 0 then (if bt162.2 = 0 then (if bt162.1 = t157 then (if (bt158.1.size : Int) < (bt160.1.size : Int) then (some true) else (if (bt158.1.size : Int) = (bt160.1.size : Int) then (some (Op.bytesLess bt158.1.toList bt160.1.toList)) else (some false))) else (some false)) else (some false)) else (some false)) else (some false)))))) else (some false))) = some r := h
 clear h
 replace H := Option.bind_eq_some_iff.mp H
 obtain ⟨t156, A20, H⟩ := H
 replace H : (if t156 = true then ((chancerykeep2_mod.f a0 1073741823).bind fun t157 => ((cellref_Letters.f k t157).bind fun bt158 => ((cellref_Letters.f k (wrap64 (t157 + 1))).bind fun bt160 => ((cellref_Column.f k bt158.1).bind fun bt162 => (if bt158.2 = 0 then (if bt160.2 = 0 then (if bt162.2 = 0 then (if bt162.1 = t157 then (if (bt158.1.size : Int) < (bt160.1.size : Int) then (some true) else (if (bt158.1.size : Int) = (bt160.1.size : Int) then (some (Op.bytesLess bt158.1.toList bt160.1.toList)) else (some false))) else (some false)) else (some false)) else (some false)) else (some false)))))) else (some false)) = some r := H
 have A2 := Aside0.mk A20
 clear A20
 by_cases c3 : t156 = true
 ·subst c3
  have H1 : ((chancerykeep2_mod.f a0 1073741823).bind fun t157 => ((cellref_Letters.f k t157).bind fun bt158 => ((cellref_Letters.f k (wrap64 (t157 + 1))).bind fun bt160 => ((cellref_Column.f k bt158.1).bind fun bt162 => (if bt158.2 = 0 then (if bt160.2 = 0 then (if bt162.2 = 0 then (if bt162.1 = t157 then (if (bt158.1.size : Int) < (bt160.1.size : Int) then (some true) else (if (bt158.1.size : Int) = (bt160.1.size : Int) then (some (Op.bytesLess bt158.1.toList bt160.1.toList)) else (some false))) else (some false)) else (some false)) else (some false)) else (some false)))))) = some r := by rw [if_pos rfl] at H; exact H
  clear H
  have H := H1
  clear H1
  replace H := Option.bind_eq_some_iff.mp H
  obtain ⟨t157, A40, H⟩ := H
  replace H : ((cellref_Letters.f k t157).bind fun bt158 => ((cellref_Letters.f k (wrap64 (t157 + 1))).bind fun bt160 => ((cellref_Column.f k bt158.1).bind fun bt162 => (if bt158.2 = 0 then (if bt160.2 = 0 then (if bt162.2 = 0 then (if bt162.1 = t157 then (if (bt158.1.size : Int) < (bt160.1.size : Int) then (some true) else (if (bt158.1.size : Int) = (bt160.1.size : Int) then (some (Op.bytesLess bt158.1.toList bt160.1.toList)) else (some false))) else (some false)) else (some false)) else (some false)) else (some false))))) = some r := H
  have A4 := Aside0.mk A40
  clear A40
  replace H := Option.bind_eq_some_iff.mp H
  obtain ⟨⟨t158, t159⟩, A50, H⟩ := H
  replace H : ((cellref_Letters.f k (wrap64 (t157 + 1))).bind fun bt160 => ((cellref_Column.f k t158).bind fun bt162 => (if t159 = 0 then (if bt160.2 = 0 then (if bt162.2 = 0 then (if bt162.1 = t157 then (if (t158.size : Int) < (bt160.1.size : Int) then (some true) else (if (t158.size : Int) = (bt160.1.size : Int) then (some (Op.bytesLess t158.toList bt160.1.toList)) else (some false))) else (some false)) else (some false)) else (some false)) else (some false)))) = some r := H
  have A5 := Aside0.mk A50
  clear A50
  replace H := Option.bind_eq_some_iff.mp H
  obtain ⟨⟨t160, t161⟩, A60, H⟩ := H
  replace H : ((cellref_Column.f k t158).bind fun bt162 => (if t159 = 0 then (if t161 = 0 then (if bt162.2 = 0 then (if bt162.1 = t157 then (if (t158.size : Int) < (t160.size : Int) then (some true) else (if (t158.size : Int) = (t160.size : Int) then (some (Op.bytesLess t158.toList t160.toList)) else (some false))) else (some false)) else (some false)) else (some false)) else (some false))) = some r := H
  have A6 := Aside0.mk A60
  clear A60
  replace H := Option.bind_eq_some_iff.mp H
  obtain ⟨⟨t162, t163⟩, A70, H⟩ := H
  replace H : (if t159 = 0 then (if t161 = 0 then (if t163 = 0 then (if t162 = t157 then (if (t158.size : Int) < (t160.size : Int) then (some true) else (if (t158.size : Int) = (t160.size : Int) then (some (Op.bytesLess t158.toList t160.toList)) else (some false))) else (some false)) else (some false)) else (some false)) else (some false)) = some r := H
  have A7 := Aside0.mk A70
  clear A70
  by_cases c8 : t159 = 0
  ·rw [if_pos c8] at H
   have c8b0 : (t159 == 0) = true := beq_iff_eq.mpr c8
   have c8b1 : (t159 != 0) = false := bne_eq_false_iff_eq.mpr c8
   clear c8
   by_cases c9 : t161 = 0
   ·rw [if_pos c9] at H
    have c9b0 : (t161 == 0) = true := beq_iff_eq.mpr c9
    have c9b1 : (t161 != 0) = false := bne_eq_false_iff_eq.mpr c9
    clear c9
    by_cases c10 : t163 = 0
    ·rw [if_pos c10] at H
     have c10b0 : (t163 == 0) = true := beq_iff_eq.mpr c10
     have c10b1 : (t163 != 0) = false := bne_eq_false_iff_eq.mpr c10
     clear c10
     by_cases c11 : t162 = t157
     ·rw [if_pos c11] at H
      have c11b0 : (t162 == t157) = true := beq_iff_eq.mpr c11
      have c11b1 : (t162 != t157) = false := bne_eq_false_iff_eq.mpr c11
      clear c11
      by_cases c12 : (t158.size : Int) < (t160.size : Int)
      ·rw [if_pos c12] at H
       have c12b0 : decide ((t158.size : Int) < (t160.size : Int)) = true := decide_eq_true c12
       have c12b1 : decide (t158.size < t160.size) = true := decide_eq_true (Int.ofNat_lt.mp c12)
       clear c12
       obtain rfl := Option.some.inj H
       go_enter Tryd.func6, Tryd.ntmps6
       go_wp2_with (first | ((with_reducible refine gate_callee (f := 16) rfl ?_); refine goesL_ (some 9) rfl rfl Tryd.func16 (by kernel_rfl) rfl #[] rfl (by (try simp only [List.map_toArray, List.map_cons, List.map_nil]); first | done | rfl | (simp only [List.length_drop, List.length_take]; rfl)) ?_; (with_reducible refine (chancerykeep2_refs.calls  true _ ?side1 A2.out).mono ?_); (case side1 => first | exact hGl | exact gl_below hGl (bl HB.out)); rintro e w13 ⟨rfl, hb⟩; refine ⟨_, rfl, ?_⟩; have n0_ := Aside0.mk (below_step (bl HB.out) hb); clear HB; have HB := n0_; clear n0_; (try clear hb); (try clear hb2); (try clear hk); (try clear hi)) | ((with_reducible refine gate_callee (f := 13) rfl ?_); refine goesL_ (some 12) rfl rfl Tryd.func13 (by kernel_rfl) rfl #[.int .i64 a0, .int .i64 1073741823] rfl (by (try simp only [List.map_toArray, List.map_cons, List.map_nil]); first | done | rfl | (simp only [List.length_drop, List.length_take]; rfl)) ?_; (with_reducible refine (chancerykeep2_mod.calls a0 1073741823 t157 _ ?side1 A4.out).mono ?_); (case side1 => first | exact hGl | exact gl_below hGl (bl HB.out)); rintro e w' ⟨rfl, ⟨nd, rfl⟩⟩; refine ⟨_, rfl, ?_⟩) | ((with_reducible refine gate_callee (f := 17) rfl ?_); refine goesL_ (some 15) rfl rfl Tryd.func17 (by kernel_rfl) rfl #[.int .i64 t157] rfl (by (try simp only [List.map_toArray, List.map_cons, List.map_nil]); first | done | rfl | (simp only [List.length_drop, List.length_take]; rfl)) ?_; (with_reducible refine (cellref_Letters.calls k t157 t158 t159 _ ?side1 A5.out).mono ?_); (case side1 => first | exact hGl | exact gl_below hGl (bl HB.out)); rintro e w14 ⟨rfl, hb⟩; refine ⟨_, rfl, ?_⟩; have n0_ := Aside0.mk (below_step (bl HB.out) hb); clear HB; have HB := n0_; clear n0_; (try clear hb); (try clear hb2); (try clear hk); (try clear hi)) | ((with_reducible refine gate_callee (f := 17) rfl ?_); refine goesL_ (some 21) rfl rfl Tryd.func17 (by kernel_rfl) rfl #[.int .i64 (wrap64 (t157 + 1))] rfl (by (try simp only [List.map_toArray, List.map_cons, List.map_nil]); first | done | rfl | (simp only [List.length_drop, List.length_take]; rfl)) ?_; (with_reducible refine (cellref_Letters.calls k (wrap64 (t157 + 1)) t160 t161 _ ?side1 A6.out).mono ?_); (case side1 => first | exact hGl | exact gl_below hGl (bl HB.out)); rintro e w15 ⟨rfl, hb⟩; refine ⟨_, rfl, ?_⟩; have n0_ := Aside0.mk (below_step (bl HB.out) hb); clear HB; have HB := n0_; clear n0_; (try clear hb); (try clear hb2); (try clear hk); (try clear hi)) | ((with_reducible refine gate_callee (f := 18) rfl ?_); refine goesL_ (some 26) rfl rfl Tryd.func18 (by kernel_rfl) rfl #[.string t158] rfl (by (try simp only [List.map_toArray, List.map_cons, List.map_nil]); first | done | rfl | (simp only [List.length_drop, List.length_take]; rfl)) ?_; (with_reducible refine (cellref_Column.calls k t158 t162 t163 _ ?side1 A7.out).mono ?_); (case side1 => first | exact hGl | exact gl_below hGl (bl HB.out)); rintro e w' ⟨rfl, ⟨nd, rfl⟩⟩; refine ⟨_, rfl, ?_⟩))
       go_ret
       exact ⟨by first | rfl | (simp [errW_none, errW_some] <;> rfl) | (simp [*, errW_none, errW_some] <;> rfl), bl HB.out⟩
      ·rw [if_neg c12] at H
       have c12b0 : decide ((t158.size : Int) < (t160.size : Int)) = false := decide_eq_false c12
       have c12b1 : decide (t158.size < t160.size) = false := decide_eq_false (fun h => c12 (Int.ofNat_lt.mpr h))
       clear c12
       by_cases c16 : (t158.size : Int) = (t160.size : Int)
       ·rw [if_pos c16] at H
        have c16b0 : ((t158.size : Int) == (t160.size : Int)) = true := beq_iff_eq.mpr c16
        have c16b1 : ((t158.size : Int) != (t160.size : Int)) = false := bne_eq_false_iff_eq.mpr c16
        have c16b2 : (t158.size == t160.size) = true := by first | simpa using c16 | (simp at c16 ⊢; omega)
        clear c16
        obtain rfl := Option.some.inj H
        go_enter Tryd.func6, Tryd.ntmps6
        go_wp2_with (first | ((with_reducible refine gate_callee (f := 16) rfl ?_); refine goesL_ (some 9) rfl rfl Tryd.func16 (by kernel_rfl) rfl #[] rfl (by (try simp only [List.map_toArray, List.map_cons, List.map_nil]); first | done | rfl | (simp only [List.length_drop, List.length_take]; rfl)) ?_; (with_reducible refine (chancerykeep2_refs.calls  true _ ?side1 A2.out).mono ?_); (case side1 => first | exact hGl | exact gl_below hGl (bl HB.out)); rintro e w17 ⟨rfl, hb⟩; refine ⟨_, rfl, ?_⟩; have n0_ := Aside0.mk (below_step (bl HB.out) hb); clear HB; have HB := n0_; clear n0_; (try clear hb); (try clear hb2); (try clear hk); (try clear hi)) | ((with_reducible refine gate_callee (f := 13) rfl ?_); refine goesL_ (some 12) rfl rfl Tryd.func13 (by kernel_rfl) rfl #[.int .i64 a0, .int .i64 1073741823] rfl (by (try simp only [List.map_toArray, List.map_cons, List.map_nil]); first | done | rfl | (simp only [List.length_drop, List.length_take]; rfl)) ?_; (with_reducible refine (chancerykeep2_mod.calls a0 1073741823 t157 _ ?side1 A4.out).mono ?_); (case side1 => first | exact hGl | exact gl_below hGl (bl HB.out)); rintro e w' ⟨rfl, ⟨nd, rfl⟩⟩; refine ⟨_, rfl, ?_⟩) | ((with_reducible refine gate_callee (f := 17) rfl ?_); refine goesL_ (some 15) rfl rfl Tryd.func17 (by kernel_rfl) rfl #[.int .i64 t157] rfl (by (try simp only [List.map_toArray, List.map_cons, List.map_nil]); first | done | rfl | (simp only [List.length_drop, List.length_take]; rfl)) ?_; (with_reducible refine (cellref_Letters.calls k t157 t158 t159 _ ?side1 A5.out).mono ?_); (case side1 => first | exact hGl | exact gl_below hGl (bl HB.out)); rintro e w18 ⟨rfl, hb⟩; refine ⟨_, rfl, ?_⟩; have n0_ := Aside0.mk (below_step (bl HB.out) hb); clear HB; have HB := n0_; clear n0_; (try clear hb); (try clear hb2); (try clear hk); (try clear hi)) | ((with_reducible refine gate_callee (f := 17) rfl ?_); refine goesL_ (some 21) rfl rfl Tryd.func17 (by kernel_rfl) rfl #[.int .i64 (wrap64 (t157 + 1))] rfl (by (try simp only [List.map_toArray, List.map_cons, List.map_nil]); first | done | rfl | (simp only [List.length_drop, List.length_take]; rfl)) ?_; (with_reducible refine (cellref_Letters.calls k (wrap64 (t157 + 1)) t160 t161 _ ?side1 A6.out).mono ?_); (case side1 => first | exact hGl | exact gl_below hGl (bl HB.out)); rintro e w19 ⟨rfl, hb⟩; refine ⟨_, rfl, ?_⟩; have n0_ := Aside0.mk (below_step (bl HB.out) hb); clear HB; have HB := n0_; clear n0_; (try clear hb); (try clear hb2); (try clear hk); (try clear hi)) | ((with_reducible refine gate_callee (f := 18) rfl ?_); refine goesL_ (some 26) rfl rfl Tryd.func18 (by kernel_rfl) rfl #[.string t158] rfl (by (try simp only [List.map_toArray, List.map_cons, List.map_nil]); first | done | rfl | (simp only [List.length_drop, List.length_take]; rfl)) ?_; (with_reducible refine (cellref_Column.calls k t158 t162 t163 _ ?side1 A7.out).mono ?_); (case side1 => first | exact hGl | exact gl_below hGl (bl HB.out)); rintro e w' ⟨rfl, ⟨nd, rfl⟩⟩; refine ⟨_, rfl, ?_⟩))
        go_ret
        exact ⟨by first | rfl | (simp [errW_none, errW_some] <;> rfl) | (simp [*, errW_none, errW_some] <;> rfl), bl HB.out⟩
       ·rw [if_neg c16] at H
        have c16b0 : ((t158.size : Int) == (t160.size : Int)) = false := beq_eq_false_iff_ne.mpr c16
        have c16b1 : ((t158.size : Int) != (t160.size : Int)) = true := bne_iff_ne.mpr c16
        have c16b2 : (t158.size == t160.size) = false := by first | simpa using c16 | (simp at c16 ⊢; omega)
        obtain rfl := Option.some.inj H
        go_enter Tryd.func6, Tryd.ntmps6
        go_wp2_with (first | ((with_reducible refine gate_callee (f := 16) rfl ?_); refine goesL_ (some 9) rfl rfl Tryd.func16 (by kernel_rfl) rfl #[] rfl (by (try simp only [List.map_toArray, List.map_cons, List.map_nil]); first | done | rfl | (simp only [List.length_drop, List.length_take]; rfl)) ?_; (with_reducible refine (chancerykeep2_refs.calls  true _ ?side1 A2.out).mono ?_); (case side1 => first | exact hGl | exact gl_below hGl (bl HB.out)); rintro e w20 ⟨rfl, hb⟩; refine ⟨_, rfl, ?_⟩; have n0_ := Aside0.mk (below_step (bl HB.out) hb); clear HB; have HB := n0_; clear n0_; (try clear hb); (try clear hb2); (try clear hk); (try clear hi)) | ((with_reducible refine gate_callee (f := 13) rfl ?_); refine goesL_ (some 12) rfl rfl Tryd.func13 (by kernel_rfl) rfl #[.int .i64 a0, .int .i64 1073741823] rfl (by (try simp only [List.map_toArray, List.map_cons, List.map_nil]); first | done | rfl | (simp only [List.length_drop, List.length_take]; rfl)) ?_; (with_reducible refine (chancerykeep2_mod.calls a0 1073741823 t157 _ ?side1 A4.out).mono ?_); (case side1 => first | exact hGl | exact gl_below hGl (bl HB.out)); rintro e w' ⟨rfl, ⟨nd, rfl⟩⟩; refine ⟨_, rfl, ?_⟩) | ((with_reducible refine gate_callee (f := 17) rfl ?_); refine goesL_ (some 15) rfl rfl Tryd.func17 (by kernel_rfl) rfl #[.int .i64 t157] rfl (by (try simp only [List.map_toArray, List.map_cons, List.map_nil]); first | done | rfl | (simp only [List.length_drop, List.length_take]; rfl)) ?_; (with_reducible refine (cellref_Letters.calls k t157 t158 t159 _ ?side1 A5.out).mono ?_); (case side1 => first | exact hGl | exact gl_below hGl (bl HB.out)); rintro e w21 ⟨rfl, hb⟩; refine ⟨_, rfl, ?_⟩; have n0_ := Aside0.mk (below_step (bl HB.out) hb); clear HB; have HB := n0_; clear n0_; (try clear hb); (try clear hb2); (try clear hk); (try clear hi)) | ((with_reducible refine gate_callee (f := 17) rfl ?_); refine goesL_ (some 21) rfl rfl Tryd.func17 (by kernel_rfl) rfl #[.int .i64 (wrap64 (t157 + 1))] rfl (by (try simp only [List.map_toArray, List.map_cons, List.map_nil]); first | done | rfl | (simp only [List.length_drop, List.length_take]; rfl)) ?_; (with_reducible refine (cellref_Letters.calls k (wrap64 (t157 + 1)) t160 t161 _ ?side1 A6.out).mono ?_); (case side1 => first | exact hGl | exact gl_below hGl (bl HB.out)); rintro e w22 ⟨rfl, hb⟩; refine ⟨_, rfl, ?_⟩; have n0_ := Aside0.mk (below_step (bl HB.out) hb); clear HB; have HB := n0_; clear n0_; (try clear hb); (try clear hb2); (try clear hk); (try clear hi)) | ((with_reducible refine gate_callee (f := 18) rfl ?_); refine goesL_ (some 26) rfl rfl Tryd.func18 (by kernel_rfl) rfl #[.string t158] rfl (by (try simp only [List.map_toArray, List.map_cons, List.map_nil]); first | done | rfl | (simp only [List.length_drop, List.length_take]; rfl)) ?_; (with_reducible refine (cellref_Column.calls k t158 t162 t163 _ ?side1 A7.out).mono ?_); (case side1 => first | exact hGl | exact gl_below hGl (bl HB.out)); rintro e w' ⟨rfl, ⟨nd, rfl⟩⟩; refine ⟨_, rfl, ?_⟩))
        go_ret
        exact ⟨by first | rfl | (simp [errW_none, errW_some] <;> rfl) | (simp [*, errW_none, errW_some] <;> rfl), bl HB.out⟩
     ·rw [if_neg c11] at H
      have c11b0 : (t162 == t157) = false := beq_eq_false_iff_ne.mpr c11
      have c11b1 : (t162 != t157) = true := bne_iff_ne.mpr c11
      obtain rfl := Option.some.inj H
      go_enter Tryd.func6, Tryd.ntmps6
      go_wp2_with (first | ((with_reducible refine gate_callee (f := 16) rfl ?_); refine goesL_ (some 9) rfl rfl Tryd.func16 (by kernel_rfl) rfl #[] rfl (by (try simp only [List.map_toArray, List.map_cons, List.map_nil]); first | done | rfl | (simp only [List.length_drop, List.length_take]; rfl)) ?_; (with_reducible refine (chancerykeep2_refs.calls  true _ ?side1 A2.out).mono ?_); (case side1 => first | exact hGl | exact gl_below hGl (bl HB.out)); rintro e w23 ⟨rfl, hb⟩; refine ⟨_, rfl, ?_⟩; have n0_ := Aside0.mk (below_step (bl HB.out) hb); clear HB; have HB := n0_; clear n0_; (try clear hb); (try clear hb2); (try clear hk); (try clear hi)) | ((with_reducible refine gate_callee (f := 13) rfl ?_); refine goesL_ (some 12) rfl rfl Tryd.func13 (by kernel_rfl) rfl #[.int .i64 a0, .int .i64 1073741823] rfl (by (try simp only [List.map_toArray, List.map_cons, List.map_nil]); first | done | rfl | (simp only [List.length_drop, List.length_take]; rfl)) ?_; (with_reducible refine (chancerykeep2_mod.calls a0 1073741823 t157 _ ?side1 A4.out).mono ?_); (case side1 => first | exact hGl | exact gl_below hGl (bl HB.out)); rintro e w' ⟨rfl, ⟨nd, rfl⟩⟩; refine ⟨_, rfl, ?_⟩) | ((with_reducible refine gate_callee (f := 17) rfl ?_); refine goesL_ (some 15) rfl rfl Tryd.func17 (by kernel_rfl) rfl #[.int .i64 t157] rfl (by (try simp only [List.map_toArray, List.map_cons, List.map_nil]); first | done | rfl | (simp only [List.length_drop, List.length_take]; rfl)) ?_; (with_reducible refine (cellref_Letters.calls k t157 t158 t159 _ ?side1 A5.out).mono ?_); (case side1 => first | exact hGl | exact gl_below hGl (bl HB.out)); rintro e w24 ⟨rfl, hb⟩; refine ⟨_, rfl, ?_⟩; have n0_ := Aside0.mk (below_step (bl HB.out) hb); clear HB; have HB := n0_; clear n0_; (try clear hb); (try clear hb2); (try clear hk); (try clear hi)) | ((with_reducible refine gate_callee (f := 17) rfl ?_); refine goesL_ (some 21) rfl rfl Tryd.func17 (by kernel_rfl) rfl #[.int .i64 (wrap64 (t157 + 1))] rfl (by (try simp only [List.map_toArray, List.map_cons, List.map_nil]); first | done | rfl | (simp only [List.length_drop, List.length_take]; rfl)) ?_; (with_reducible refine (cellref_Letters.calls k (wrap64 (t157 + 1)) t160 t161 _ ?side1 A6.out).mono ?_); (case side1 => first | exact hGl | exact gl_below hGl (bl HB.out)); rintro e w25 ⟨rfl, hb⟩; refine ⟨_, rfl, ?_⟩; have n0_ := Aside0.mk (below_step (bl HB.out) hb); clear HB; have HB := n0_; clear n0_; (try clear hb); (try clear hb2); (try clear hk); (try clear hi)) | ((with_reducible refine gate_callee (f := 18) rfl ?_); refine goesL_ (some 26) rfl rfl Tryd.func18 (by kernel_rfl) rfl #[.string t158] rfl (by (try simp only [List.map_toArray, List.map_cons, List.map_nil]); first | done | rfl | (simp only [List.length_drop, List.length_take]; rfl)) ?_; (with_reducible refine (cellref_Column.calls k t158 t162 t163 _ ?side1 A7.out).mono ?_); (case side1 => first | exact hGl | exact gl_below hGl (bl HB.out)); rintro e w' ⟨rfl, ⟨nd, rfl⟩⟩; refine ⟨_, rfl, ?_⟩))
      go_ret
      exact ⟨by first | rfl | (simp [errW_none, errW_some] <;> rfl) | (simp [*, errW_none, errW_some] <;> rfl), bl HB.out⟩
    ·rw [if_neg c10] at H
     have c10b0 : (t163 == 0) = false := beq_eq_false_iff_ne.mpr c10
     have c10b1 : (t163 != 0) = true := bne_iff_ne.mpr c10
     obtain rfl := Option.some.inj H
     go_enter Tryd.func6, Tryd.ntmps6
     go_wp2_with (first | ((with_reducible refine gate_callee (f := 16) rfl ?_); refine goesL_ (some 9) rfl rfl Tryd.func16 (by kernel_rfl) rfl #[] rfl (by (try simp only [List.map_toArray, List.map_cons, List.map_nil]); first | done | rfl | (simp only [List.length_drop, List.length_take]; rfl)) ?_; (with_reducible refine (chancerykeep2_refs.calls  true _ ?side1 A2.out).mono ?_); (case side1 => first | exact hGl | exact gl_below hGl (bl HB.out)); rintro e w26 ⟨rfl, hb⟩; refine ⟨_, rfl, ?_⟩; have n0_ := Aside0.mk (below_step (bl HB.out) hb); clear HB; have HB := n0_; clear n0_; (try clear hb); (try clear hb2); (try clear hk); (try clear hi)) | ((with_reducible refine gate_callee (f := 13) rfl ?_); refine goesL_ (some 12) rfl rfl Tryd.func13 (by kernel_rfl) rfl #[.int .i64 a0, .int .i64 1073741823] rfl (by (try simp only [List.map_toArray, List.map_cons, List.map_nil]); first | done | rfl | (simp only [List.length_drop, List.length_take]; rfl)) ?_; (with_reducible refine (chancerykeep2_mod.calls a0 1073741823 t157 _ ?side1 A4.out).mono ?_); (case side1 => first | exact hGl | exact gl_below hGl (bl HB.out)); rintro e w' ⟨rfl, ⟨nd, rfl⟩⟩; refine ⟨_, rfl, ?_⟩) | ((with_reducible refine gate_callee (f := 17) rfl ?_); refine goesL_ (some 15) rfl rfl Tryd.func17 (by kernel_rfl) rfl #[.int .i64 t157] rfl (by (try simp only [List.map_toArray, List.map_cons, List.map_nil]); first | done | rfl | (simp only [List.length_drop, List.length_take]; rfl)) ?_; (with_reducible refine (cellref_Letters.calls k t157 t158 t159 _ ?side1 A5.out).mono ?_); (case side1 => first | exact hGl | exact gl_below hGl (bl HB.out)); rintro e w27 ⟨rfl, hb⟩; refine ⟨_, rfl, ?_⟩; have n0_ := Aside0.mk (below_step (bl HB.out) hb); clear HB; have HB := n0_; clear n0_; (try clear hb); (try clear hb2); (try clear hk); (try clear hi)) | ((with_reducible refine gate_callee (f := 17) rfl ?_); refine goesL_ (some 21) rfl rfl Tryd.func17 (by kernel_rfl) rfl #[.int .i64 (wrap64 (t157 + 1))] rfl (by (try simp only [List.map_toArray, List.map_cons, List.map_nil]); first | done | rfl | (simp only [List.length_drop, List.length_take]; rfl)) ?_; (with_reducible refine (cellref_Letters.calls k (wrap64 (t157 + 1)) t160 t161 _ ?side1 A6.out).mono ?_); (case side1 => first | exact hGl | exact gl_below hGl (bl HB.out)); rintro e w28 ⟨rfl, hb⟩; refine ⟨_, rfl, ?_⟩; have n0_ := Aside0.mk (below_step (bl HB.out) hb); clear HB; have HB := n0_; clear n0_; (try clear hb); (try clear hb2); (try clear hk); (try clear hi)) | ((with_reducible refine gate_callee (f := 18) rfl ?_); refine goesL_ (some 26) rfl rfl Tryd.func18 (by kernel_rfl) rfl #[.string t158] rfl (by (try simp only [List.map_toArray, List.map_cons, List.map_nil]); first | done | rfl | (simp only [List.length_drop, List.length_take]; rfl)) ?_; (with_reducible refine (cellref_Column.calls k t158 t162 t163 _ ?side1 A7.out).mono ?_); (case side1 => first | exact hGl | exact gl_below hGl (bl HB.out)); rintro e w' ⟨rfl, ⟨nd, rfl⟩⟩; refine ⟨_, rfl, ?_⟩))
     go_ret
     exact ⟨by first | rfl | (simp [errW_none, errW_some] <;> rfl) | (simp [*, errW_none, errW_some] <;> rfl), bl HB.out⟩
   ·rw [if_neg c9] at H
    have c9b0 : (t161 == 0) = false := beq_eq_false_iff_ne.mpr c9
    have c9b1 : (t161 != 0) = true := bne_iff_ne.mpr c9
    obtain rfl := Option.some.inj H
    go_enter Tryd.func6, Tryd.ntmps6
    go_wp2_with (first | ((with_reducible refine gate_callee (f := 16) rfl ?_); refine goesL_ (some 9) rfl rfl Tryd.func16 (by kernel_rfl) rfl #[] rfl (by (try simp only [List.map_toArray, List.map_cons, List.map_nil]); first | done | rfl | (simp only [List.length_drop, List.length_take]; rfl)) ?_; (with_reducible refine (chancerykeep2_refs.calls  true _ ?side1 A2.out).mono ?_); (case side1 => first | exact hGl | exact gl_below hGl (bl HB.out)); rintro e w29 ⟨rfl, hb⟩; refine ⟨_, rfl, ?_⟩; have n0_ := Aside0.mk (below_step (bl HB.out) hb); clear HB; have HB := n0_; clear n0_; (try clear hb); (try clear hb2); (try clear hk); (try clear hi)) | ((with_reducible refine gate_callee (f := 13) rfl ?_); refine goesL_ (some 12) rfl rfl Tryd.func13 (by kernel_rfl) rfl #[.int .i64 a0, .int .i64 1073741823] rfl (by (try simp only [List.map_toArray, List.map_cons, List.map_nil]); first | done | rfl | (simp only [List.length_drop, List.length_take]; rfl)) ?_; (with_reducible refine (chancerykeep2_mod.calls a0 1073741823 t157 _ ?side1 A4.out).mono ?_); (case side1 => first | exact hGl | exact gl_below hGl (bl HB.out)); rintro e w' ⟨rfl, ⟨nd, rfl⟩⟩; refine ⟨_, rfl, ?_⟩) | ((with_reducible refine gate_callee (f := 17) rfl ?_); refine goesL_ (some 15) rfl rfl Tryd.func17 (by kernel_rfl) rfl #[.int .i64 t157] rfl (by (try simp only [List.map_toArray, List.map_cons, List.map_nil]); first | done | rfl | (simp only [List.length_drop, List.length_take]; rfl)) ?_; (with_reducible refine (cellref_Letters.calls k t157 t158 t159 _ ?side1 A5.out).mono ?_); (case side1 => first | exact hGl | exact gl_below hGl (bl HB.out)); rintro e w30 ⟨rfl, hb⟩; refine ⟨_, rfl, ?_⟩; have n0_ := Aside0.mk (below_step (bl HB.out) hb); clear HB; have HB := n0_; clear n0_; (try clear hb); (try clear hb2); (try clear hk); (try clear hi)) | ((with_reducible refine gate_callee (f := 17) rfl ?_); refine goesL_ (some 21) rfl rfl Tryd.func17 (by kernel_rfl) rfl #[.int .i64 (wrap64 (t157 + 1))] rfl (by (try simp only [List.map_toArray, List.map_cons, List.map_nil]); first | done | rfl | (simp only [List.length_drop, List.length_take]; rfl)) ?_; (with_reducible refine (cellref_Letters.calls k (wrap64 (t157 + 1)) t160 t161 _ ?side1 A6.out).mono ?_); (case side1 => first | exact hGl | exact gl_below hGl (bl HB.out)); rintro e w31 ⟨rfl, hb⟩; refine ⟨_, rfl, ?_⟩; have n0_ := Aside0.mk (below_step (bl HB.out) hb); clear HB; have HB := n0_; clear n0_; (try clear hb); (try clear hb2); (try clear hk); (try clear hi)) | ((with_reducible refine gate_callee (f := 18) rfl ?_); refine goesL_ (some 26) rfl rfl Tryd.func18 (by kernel_rfl) rfl #[.string t158] rfl (by (try simp only [List.map_toArray, List.map_cons, List.map_nil]); first | done | rfl | (simp only [List.length_drop, List.length_take]; rfl)) ?_; (with_reducible refine (cellref_Column.calls k t158 t162 t163 _ ?side1 A7.out).mono ?_); (case side1 => first | exact hGl | exact gl_below hGl (bl HB.out)); rintro e w' ⟨rfl, ⟨nd, rfl⟩⟩; refine ⟨_, rfl, ?_⟩))
    go_ret
    exact ⟨by first | rfl | (simp [errW_none, errW_some] <;> rfl) | (simp [*, errW_none, errW_some] <;> rfl), bl HB.out⟩
  ·rw [if_neg c8] at H
   have c8b0 : (t159 == 0) = false := beq_eq_false_iff_ne.mpr c8
   have c8b1 : (t159 != 0) = true := bne_iff_ne.mpr c8
   obtain rfl := Option.some.inj H
   go_enter Tryd.func6, Tryd.ntmps6
   go_wp2_with (first | ((with_reducible refine gate_callee (f := 16) rfl ?_); refine goesL_ (some 9) rfl rfl Tryd.func16 (by kernel_rfl) rfl #[] rfl (by (try simp only [List.map_toArray, List.map_cons, List.map_nil]); first | done | rfl | (simp only [List.length_drop, List.length_take]; rfl)) ?_; (with_reducible refine (chancerykeep2_refs.calls  true _ ?side1 A2.out).mono ?_); (case side1 => first | exact hGl | exact gl_below hGl (bl HB.out)); rintro e w32 ⟨rfl, hb⟩; refine ⟨_, rfl, ?_⟩; have n0_ := Aside0.mk (below_step (bl HB.out) hb); clear HB; have HB := n0_; clear n0_; (try clear hb); (try clear hb2); (try clear hk); (try clear hi)) | ((with_reducible refine gate_callee (f := 13) rfl ?_); refine goesL_ (some 12) rfl rfl Tryd.func13 (by kernel_rfl) rfl #[.int .i64 a0, .int .i64 1073741823] rfl (by (try simp only [List.map_toArray, List.map_cons, List.map_nil]); first | done | rfl | (simp only [List.length_drop, List.length_take]; rfl)) ?_; (with_reducible refine (chancerykeep2_mod.calls a0 1073741823 t157 _ ?side1 A4.out).mono ?_); (case side1 => first | exact hGl | exact gl_below hGl (bl HB.out)); rintro e w' ⟨rfl, ⟨nd, rfl⟩⟩; refine ⟨_, rfl, ?_⟩) | ((with_reducible refine gate_callee (f := 17) rfl ?_); refine goesL_ (some 15) rfl rfl Tryd.func17 (by kernel_rfl) rfl #[.int .i64 t157] rfl (by (try simp only [List.map_toArray, List.map_cons, List.map_nil]); first | done | rfl | (simp only [List.length_drop, List.length_take]; rfl)) ?_; (with_reducible refine (cellref_Letters.calls k t157 t158 t159 _ ?side1 A5.out).mono ?_); (case side1 => first | exact hGl | exact gl_below hGl (bl HB.out)); rintro e w33 ⟨rfl, hb⟩; refine ⟨_, rfl, ?_⟩; have n0_ := Aside0.mk (below_step (bl HB.out) hb); clear HB; have HB := n0_; clear n0_; (try clear hb); (try clear hb2); (try clear hk); (try clear hi)) | ((with_reducible refine gate_callee (f := 17) rfl ?_); refine goesL_ (some 21) rfl rfl Tryd.func17 (by kernel_rfl) rfl #[.int .i64 (wrap64 (t157 + 1))] rfl (by (try simp only [List.map_toArray, List.map_cons, List.map_nil]); first | done | rfl | (simp only [List.length_drop, List.length_take]; rfl)) ?_; (with_reducible refine (cellref_Letters.calls k (wrap64 (t157 + 1)) t160 t161 _ ?side1 A6.out).mono ?_); (case side1 => first | exact hGl | exact gl_below hGl (bl HB.out)); rintro e w34 ⟨rfl, hb⟩; refine ⟨_, rfl, ?_⟩; have n0_ := Aside0.mk (below_step (bl HB.out) hb); clear HB; have HB := n0_; clear n0_; (try clear hb); (try clear hb2); (try clear hk); (try clear hi)) | ((with_reducible refine gate_callee (f := 18) rfl ?_); refine goesL_ (some 26) rfl rfl Tryd.func18 (by kernel_rfl) rfl #[.string t158] rfl (by (try simp only [List.map_toArray, List.map_cons, List.map_nil]); first | done | rfl | (simp only [List.length_drop, List.length_take]; rfl)) ?_; (with_reducible refine (cellref_Column.calls k t158 t162 t163 _ ?side1 A7.out).mono ?_); (case side1 => first | exact hGl | exact gl_below hGl (bl HB.out)); rintro e w' ⟨rfl, ⟨nd, rfl⟩⟩; refine ⟨_, rfl, ?_⟩))
   go_ret
   exact ⟨by first | rfl | (simp [errW_none, errW_some] <;> rfl) | (simp [*, errW_none, errW_some] <;> rfl), bl HB.out⟩
 ·replace c3 := Bool.eq_false_iff.mpr c3
  subst c3
  have H1 : (some false) = some r := by rw [if_neg (show ¬ (false = true) by decide)] at H; exact H
  clear H
  have H := H1
  clear H1
  obtain rfl := Option.some.inj H
  go_enter Tryd.func6, Tryd.ntmps6
  go_wp2_with (first | ((with_reducible refine gate_callee (f := 16) rfl ?_); refine goesL_ (some 9) rfl rfl Tryd.func16 (by kernel_rfl) rfl #[] rfl (by (try simp only [List.map_toArray, List.map_cons, List.map_nil]); first | done | rfl | (simp only [List.length_drop, List.length_take]; rfl)) ?_; (with_reducible refine (chancerykeep2_refs.calls  false _ ?side1 A2.out).mono ?_); (case side1 => first | exact hGl | exact gl_below hGl (bl HB.out)); rintro e w35 ⟨rfl, hb⟩; refine ⟨_, rfl, ?_⟩; have n0_ := Aside0.mk (below_step (bl HB.out) hb); clear HB; have HB := n0_; clear n0_; (try clear hb); (try clear hb2); (try clear hk); (try clear hi)))
  go_ret
  exact ⟨by first | rfl | (simp [errW_none, errW_some] <;> rfl) | (simp [*, errW_none, errW_some] <;> rfl), bl HB.out⟩

/-- THE ONE PURE STATEMENT of chancerykeep2_RefColumnsBack: yours. -/
def chancerykeep2_RefColumnsBack.Pure : Prop := ∀ (a0 : Int), (Lit.int .i64 a0).wf = true → ∃ k, chancerykeep2_RefColumnsBack.f k a0 = some true
theorem chancerykeep2_RefColumnsBack.walk (P : chancerykeep2_RefColumnsBack.Pure) (a0 : Int) (w : World) (hGl : Gl w) (w0 : (Lit.int .i64 a0).wf = true) :
    Calls Tryd.prog 6 #[.int .i64 a0] w fun e w' => e = .returned (.bool true) ∧ Below w.heap.size w w' := by
 obtain ⟨k, h⟩ := P a0 w0
 refine (chancerykeep2_RefColumnsBack.calls k a0 true w hGl h).mono ?_
 rintro e w' ⟨rfl, hd⟩
 exact ⟨rfl, hd⟩

end Go.Proofs.YtefhcgnamfnkbaaDoor.Pr
