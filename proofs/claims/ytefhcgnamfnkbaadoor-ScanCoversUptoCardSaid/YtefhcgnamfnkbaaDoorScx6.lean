-- Written by a program of this session (wip/tools) for this claim.
import Derived.Test.YtefhcgnamfnkbaaDoorScx0
import Derived.Test.YtefhcgnamfnkbaaDoorScx5
namespace Go.Proofs.YtefhcgnamfnkbaaDoor.Pr
open Go.RowKit Go.Proofs.YtefhcgnamfnkbaaDoorW.PrintWords Go.Proofs.YtefhcgnamfnkbaaDoorW.PrintLast Go.Proofs.YtefhcgnamfnkbaaDoorW.PrintMore
attribute [local go_sem] max2_int min2_int max_two min_two max_three min_three max_four min_four   -- for this text's walks alone
set_option linter.unusedVariables false
set_option linter.unusedSimpArgs false

/-! ### chancerykeep2_scans: function 14 -/
def chancerykeep2_scans.f (k : Nat)  : Option (Bool) := (fscan_Scan.f k (⟨#[61, 97, 49, 43, 39, 120, 32, 121, 39, 33, 66, 50, 37]⟩ : ByteArray)).bind fun bt141 => (if bt141.2.2 = 0 then (if (bt141.1.length : Int) = 4 then (if 2 < (bt141.1.length : Int) then (some (((rd_T37 bt141.1 2).f0) == 4)) else (none)) else (some false)) else (some false))
theorem chancerykeep2_scans.mono : ∀ k, LeO (chancerykeep2_scans.f k ) (chancerykeep2_scans.f (k + 1) ) := by
  intro  k
  unfold chancerykeep2_scans.f
  repeat' first
      | (with_reducible exact fscan_Scan.mono _ _)
      | (with_reducible exact LeO.refl _)
      | (with_reducible exact LeO.none _)
      | (with_reducible refine LeO.ite ?_ ?_)
      | (with_reducible refine LeO.bind ?_ (fun _ => ?_))
      | exact fscan_Scan.mono _ _
      | exact LeO.none _
      | refine LeO.ite ?_ ?_
      | refine LeO.bind ?_ (fun _ => ?_)
set_option maxHeartbeats 8000000 in
set_option maxRecDepth 100000 in
theorem chancerykeep2_scans.calls (k : Nat)  (r : Bool) (w : World) (hGl : Gl w) (h : chancerykeep2_scans.f k  = some r) :
    Calls Tryd.prog 14 #[] w fun e w' => e = .returned (.bool r) ∧ Below w.heap.size w w' := by
 have HB := Aside0.mk (Below.refl w.heap.size w)
 have H : ((fscan_Scan.f k (⟨#[61, 97, 49, 43, 39, 120, 32, 121, 39, 33, 66, 50, 37]⟩ : ByteArray)).bind fun bt141 => (if bt141.2.2 = 0 then (if (bt141.1.length : Int) = 4 then (if 2 < (bt141.1.length : Int) then (some (((rd_T37 bt141.1 2).f0) == 4)) else (none)) else (some false)) else (some false))) = some r := h
 clear h
 replace H := Option.bind_eq_some_iff.mp H
 obtain ⟨⟨t141, t142, t143⟩, A10, H⟩ := H
 replace H : (if t143 = 0 then (if (t141.length : Int) = 4 then (if 2 < (t141.length : Int) then (some (((rd_T37 t141 2).f0) == 4)) else (none)) else (some false)) else (some false)) = some r := H
 have A1 := Aside0.mk A10
 clear A10
 by_cases c2 : t143 = 0
 ·rw [if_pos c2] at H
  have c2b0 : (t143 == 0) = true := beq_iff_eq.mpr c2
  have c2b1 : (t143 != 0) = false := bne_eq_false_iff_eq.mpr c2
  clear c2
  by_cases c3 : (t141.length : Int) = 4
  ·rw [if_pos c3] at H
   have c3b0 : ((t141.length : Int) == 4) = true := beq_iff_eq.mpr c3
   have c3b1 : ((t141.length : Int) != 4) = false := bne_eq_false_iff_eq.mpr c3
   clear c3
   by_cases c4 : 2 < (t141.length : Int)
   ·rw [if_pos c4] at H
    have c4b0 : decide (2 < (t141.length : Int)) = true := decide_eq_true c4
    have c4b1 : decide (2 < t141.length) = true := decide_eq_true (by omega)
    clear c4
    obtain rfl := Option.some.inj H
    go_enter Tryd.func14, Tryd.ntmps14
    go_wp2_with (first | ((with_reducible refine gate_callee (f := 15) rfl ?_); refine goesL_ (some 5) rfl rfl Tryd.func15 (by kernel_rfl) rfl #[.string (⟨#[61, 97, 49, 43, 39, 120, 32, 121, 39, 33, 66, 50, 37]⟩ : ByteArray)] rfl (by (try simp only [List.map_toArray, List.map_cons, List.map_nil]); first | done | rfl | (simp only [List.length_drop, List.length_take]; rfl)) ?_; (with_reducible refine (fscan_Scan.calls k (⟨#[61, 97, 49, 43, 39, 120, 32, 121, 39, 33, 66, 50, 37]⟩ : ByteArray) t141 t142 t143 _ ?side1 A1.out).mono ?_); (case side1 => first | exact hGl | exact gl_below hGl (by repeat (first | (with_reducible first | exact HB.out | apply below_alloc | apply pw_below_drewN | apply below_drew1) | exact HB.out))); rintro e w5 ⟨v144, rfl, ho0, hb⟩; refine ⟨_, rfl, ?_⟩; have n0_ := Aside0.mk (Kd.R_lower ho0 (below_size (by repeat (first | (with_reducible first | exact HB.out | apply below_alloc | apply pw_below_drewN | apply below_drew1) | exact HB.out)))); have n1_ := Aside0.mk (below_step (by repeat (first | (with_reducible first | exact HB.out | apply below_alloc | apply pw_below_drewN | apply below_drew1) | exact HB.out)) hb); clear HB; have HO145 := n0_; have HB := n1_; clear n0_ n1_; (try clear hb); (try clear hb2); (try clear hk); (try clear hi); (try clear ho0); obtain ⟨Ao6, co6, eo6⟩ := Kd.R_slice HO145.out; subst eo6; have p146 : 0 ≤ (2 : Int) := (by omega); have q146 : 2 < (t141.length : Int) := of_decide_eq_true (by first | (with_reducible assumption) | assumption); obtain ⟨ad146, e146, hx146_0, hx146_1⟩ := at_T37 (Kd.R_reads' HO145.out).2.2 2 p146 q146; cases e146; (try simp only [show (2 : Int).toNat = 2 from rfl, Nat.reduceMul, Nat.reduceEqDiff, Go.Addr.add, ↓reduceIte] at hx146_0); (try simp only [show (2 : Int).toNat = 2 from rfl, Nat.reduceMul, Nat.reduceEqDiff, Go.Addr.add, ↓reduceIte] at hx146_1); have qi146 : (2 < t141.length) = True := eq_true (by omega); (try rw [show ((2 : Int)).toNat = 2 from rfl] at hx146_0); (try rw [show 2 * 2 = 4 from rfl] at hx146_0); (try rw [show ((2 : Int)).toNat = 2 from rfl] at hx146_1); (try rw [show 2 * 2 = 4 from rfl] at hx146_1); replace p146 := eq_true p146; replace q146 := eq_true q146))
    go_ret
    exact ⟨by first | rfl | (simp [errW_none, errW_some] <;> rfl) | (simp [*, errW_none, errW_some] <;> rfl), by repeat (first | (with_reducible first | exact HB.out | apply below_alloc | apply pw_below_drewN | apply below_drew1) | exact HB.out)⟩
   ·rw [if_neg c4] at H
    exact absurd H (by simp)
  ·rw [if_neg c3] at H
   have c3b0 : ((t141.length : Int) == 4) = false := beq_eq_false_iff_ne.mpr c3
   have c3b1 : ((t141.length : Int) != 4) = true := bne_iff_ne.mpr c3
   obtain rfl := Option.some.inj H
   go_enter Tryd.func14, Tryd.ntmps14
   go_wp2_with (first | ((with_reducible refine gate_callee (f := 15) rfl ?_); refine goesL_ (some 5) rfl rfl Tryd.func15 (by kernel_rfl) rfl #[.string (⟨#[61, 97, 49, 43, 39, 120, 32, 121, 39, 33, 66, 50, 37]⟩ : ByteArray)] rfl (by (try simp only [List.map_toArray, List.map_cons, List.map_nil]); first | done | rfl | (simp only [List.length_drop, List.length_take]; rfl)) ?_; (with_reducible refine (fscan_Scan.calls k (⟨#[61, 97, 49, 43, 39, 120, 32, 121, 39, 33, 66, 50, 37]⟩ : ByteArray) t141 t142 t143 _ ?side1 A1.out).mono ?_); (case side1 => first | exact hGl | exact gl_below hGl (by repeat (first | (with_reducible first | exact HB.out | apply below_alloc | apply pw_below_drewN | apply below_drew1) | exact HB.out))); rintro e w7 ⟨v144, rfl, ho0, hb⟩; refine ⟨_, rfl, ?_⟩; have n0_ := Aside0.mk (Kd.R_lower ho0 (below_size (by repeat (first | (with_reducible first | exact HB.out | apply below_alloc | apply pw_below_drewN | apply below_drew1) | exact HB.out)))); have n1_ := Aside0.mk (below_step (by repeat (first | (with_reducible first | exact HB.out | apply below_alloc | apply pw_below_drewN | apply below_drew1) | exact HB.out)) hb); clear HB; have HO145 := n0_; have HB := n1_; clear n0_ n1_; (try clear hb); (try clear hb2); (try clear hk); (try clear hi); (try clear ho0); obtain ⟨Ao8, co8, eo8⟩ := Kd.R_slice HO145.out; subst eo8))
   go_ret
   exact ⟨by first | rfl | (simp [errW_none, errW_some] <;> rfl) | (simp [*, errW_none, errW_some] <;> rfl), by repeat (first | (with_reducible first | exact HB.out | apply below_alloc | apply pw_below_drewN | apply below_drew1) | exact HB.out)⟩
 ·rw [if_neg c2] at H
  have c2b0 : (t143 == 0) = false := beq_eq_false_iff_ne.mpr c2
  have c2b1 : (t143 != 0) = true := bne_iff_ne.mpr c2
  obtain rfl := Option.some.inj H
  go_enter Tryd.func14, Tryd.ntmps14
  go_wp2_with (first | ((with_reducible refine gate_callee (f := 15) rfl ?_); refine goesL_ (some 5) rfl rfl Tryd.func15 (by kernel_rfl) rfl #[.string (⟨#[61, 97, 49, 43, 39, 120, 32, 121, 39, 33, 66, 50, 37]⟩ : ByteArray)] rfl (by (try simp only [List.map_toArray, List.map_cons, List.map_nil]); first | done | rfl | (simp only [List.length_drop, List.length_take]; rfl)) ?_; (with_reducible refine (fscan_Scan.calls k (⟨#[61, 97, 49, 43, 39, 120, 32, 121, 39, 33, 66, 50, 37]⟩ : ByteArray) t141 t142 t143 _ ?side1 A1.out).mono ?_); (case side1 => first | exact hGl | exact gl_below hGl (by repeat (first | (with_reducible first | exact HB.out | apply below_alloc | apply pw_below_drewN | apply below_drew1) | exact HB.out))); rintro e w9 ⟨v144, rfl, ho0, hb⟩; refine ⟨_, rfl, ?_⟩; have n0_ := Aside0.mk (Kd.R_lower ho0 (below_size (by repeat (first | (with_reducible first | exact HB.out | apply below_alloc | apply pw_below_drewN | apply below_drew1) | exact HB.out)))); have n1_ := Aside0.mk (below_step (by repeat (first | (with_reducible first | exact HB.out | apply below_alloc | apply pw_below_drewN | apply below_drew1) | exact HB.out)) hb); clear HB; have HO145 := n0_; have HB := n1_; clear n0_ n1_; (try clear hb); (try clear hb2); (try clear hk); (try clear hi); (try clear ho0)))
  go_ret
  exact ⟨by first | rfl | (simp [errW_none, errW_some] <;> rfl) | (simp [*, errW_none, errW_some] <;> rfl), by repeat (first | (with_reducible first | exact HB.out | apply below_alloc | apply pw_below_drewN | apply below_drew1) | exact HB.out)⟩

end Go.Proofs.YtefhcgnamfnkbaaDoor.Pr
