/- chancerykeep2.fractions answers true. -/
import Derived.Test.YtefhcgnamfnkbaaGreatDoorBs
import Derived.Test.YtefhcgnamfnkbaaGreatDoorOps
import Derived.Test.YtefhcgnamfnkbaaGreatDoorPrx1
import Derived.Test.YtefhcgnamfnkbaaGreatDoorPrx6
import Derived.Deep.RegionHeld3
namespace Go.Proofs.YtefhcgnamfnkbaaGreatDoor.Pr
open Go.RowKit Go.Proofs.YtefhcgnamfnkbaaGreatDoorW.PrintWords Go.Proofs.YtefhcgnamfnkbaaGreatDoorW.PrintLast Go.Proofs.YtefhcgnamfnkbaaGreatDoorW.PrintMore
attribute [local go_sem high] eqA23

theorem fr_parse : exact_Parse.f 100 (⟨#[49, 46, 53, 48]⟩ : ByteArray) = some (⟨#[51]⟩, ⟨#[50]⟩, 0) := by decide +kernel
theorem fr_of4 : exact_Of.f 4 = some (⟨#[52]⟩, ⟨#[49]⟩) := by decide +kernel
theorem fr_of6 : exact_Of.f 6 = some (⟨#[54]⟩, ⟨#[49]⟩) := by decide +kernel
theorem fr_mul : exact_Mul.f 100 (⟨#[51]⟩ : ByteArray) (⟨#[50]⟩ : ByteArray) (⟨#[52]⟩ : ByteArray) (⟨#[49]⟩ : ByteArray) = some (⟨#[54]⟩, ⟨#[49]⟩, 0) := by decide +kernel
set_option maxHeartbeats 4000000 in
set_option maxRecDepth 100000 in
theorem fractions_true (w : World) (hGl : Gl w) : Calls Tryz.prog 8 #[] w fun e w' => e = .returned (.bool true) ∧ Below w.heap.size w w' := by
  have hu23 := Tryz.underlying23
  have HB := Aside0.mk (Below.refl w.heap.size w)
  go_enter Tryz.func8, Tryz.ntmps8
  go_wp2_with (first
    | (go_at_call 22; (with_reducible refine (exact_Parse.calls 100 _ _ _ _ _ (gl_below hGl (bl HB.out)) fr_parse).mono ?_); rintro _ w1 ⟨rfl, hb⟩; have n_ := Aside0.mk (below_step (bl HB.out) hb); clear HB hb; have HB := n_; clear n_))
  have B := Aside0.mk (show Bs (w1.alloc (.cells #[.string (⟨#[51]⟩ : ByteArray), .string (⟨#[50]⟩ : ByteArray)] 23)) [(w1.heap.size, (⟨#[51]⟩ : ByteArray), (⟨#[50]⟩ : ByteArray))] from (Bs.empty w1).add _ _)
  have n_ := Aside0.mk (show Below w.heap.size w (w1.alloc (.cells #[.string (⟨#[51]⟩ : ByteArray), .string (⟨#[50]⟩ : ByteArray)] 23)) from bl HB.out)
  obtain ⟨w2, hW⟩ : ∃ W, w1.alloc (.cells #[.string (⟨#[51]⟩ : ByteArray), .string (⟨#[50]⟩ : ByteArray)] 23) = W := ⟨_, rfl⟩
  rw [hW] at B n_ ⊢
  clear hW HB
  have HB := n_
  clear n_
  have B9 := B
  have HB9 := HB
  have c00 := Bs.c0 B.out 0 rfl; have c01 := Bs.c1 B.out 0 rfl; have z0 := Bs.z B.out 0 rfl
  go_region_held3 (fun w' => w'.cell? ⟨w1.heap.size, 0, none⟩ = some (.string (⟨#[51]⟩ : ByteArray)) ∧ w'.cell? ⟨w1.heap.size, 1, none⟩ = some (.string (⟨#[50]⟩ : ByteArray))) (first | (refine ⟨(cell_far (Nat.ne_of_lt (Nat.lt_of_lt_of_le (Bs.z B9.out 0 rfl) ?_)) _).trans ((cell_far (Nat.ne_of_lt (Nat.lt_of_lt_of_le (Bs.z B9.out 0 rfl) ?_)) _).trans (Bs.c0 B.out 0 rfl)), (cell_far (Nat.ne_of_lt (Nat.lt_of_lt_of_le (Bs.z B9.out 0 rfl) ?_)) _).trans ((cell_far (Nat.ne_of_lt (Nat.lt_of_lt_of_le (Bs.z B9.out 0 rfl) ?_)) _).trans (Bs.c1 B.out 0 rfl))⟩ <;> first | exact Nat.le_refl _ | exact y_) | exact ⟨Bs.c0 (B.out.up climb) 0 rfl, Bs.c1 (B.out.up climb) 0 rfl⟩)
    (first
    | (go_at_call 16; (with_reducible refine (exact_Of.calls 4 _ _ _ (gl_below hGl (bl HB.out)) fr_of4).mono ?_); rintro _ wo ⟨rfl, hb⟩; have b_ := Aside0.mk ((B.out.up climb).up hb); have n_ := Aside0.mk (below_step (bl HB.out) hb); have y_ := hb.size; (try (have KE : Aside0 (wo.heap[w2.heap.size]? = some (.cells #[.string (⟨#[]⟩ : ByteArray), .string (⟨#[]⟩ : ByteArray)] 23 (0, 0))) := Aside0.mk (blk_below (blk_new w2.drew _) hb))); clear B HB hb c00 c01 z0; have B := b_; have HB := n_; clear b_ n_; have c00 := Bs.c0 B.out 0 rfl; have c01 := Bs.c1 B.out 0 rfl; have z0 := Bs.z B.out 0 rfl)
    | (go_at_call 11; (with_reducible refine (exact_Mul.calls 100 _ _ _ _ _ _ _ _ (gl_below hGl (bl HB.out)) fr_mul).mono ?_); rintro _ wa ⟨rfl, hb⟩; have b_ := Aside0.mk ((B.out.up climb).up hb); have n_ := Aside0.mk (below_step (bl HB.out) hb); (first | (have ke_ := Aside0.mk (blk_below KE.out hb); clear KE; have KE := ke_; clear ke_) | (have KE : Aside0 (wa.heap[wo.heap.size]? = some (.cells #[.string (⟨#[]⟩ : ByteArray), .string (⟨#[]⟩ : ByteArray)] 23 (0, 0))) := Aside0.mk (blk_below (blk_new wo _) hb)) | skip); clear B HB hb c00 c01 z0; have B := b_; have HB := n_; clear b_ n_; have c00 := Bs.c0 B.out 0 rfl; have c01 := Bs.c1 B.out 0 rfl; have z0 := Bs.z B.out 0 rfl; (try (have d0_ := (blk_cell KE.out 0).trans rfl; have d1_ := (blk_cell (blk_set KE.out 0 (.string (⟨#[54]⟩ : ByteArray))) 1).trans rfl; have e0_ := blk_frozen KE.out 0; have e1_ := blk_frozen (blk_set KE.out 0 (.string (⟨#[54]⟩ : ByteArray))) 1))))
  · have b_ := Aside0.mk (show Bs _ [(w1.heap.size, (⟨#[51]⟩ : ByteArray), (⟨#[50]⟩ : ByteArray)), (wa.heap.size, (⟨#[54]⟩ : ByteArray), (⟨#[49]⟩ : ByteArray))] from B.out.add _ _)
    have n_ := Aside0.mk (show Below w.heap.size w (wa.alloc (.cells #[.string (⟨#[54]⟩ : ByteArray), .string (⟨#[49]⟩ : ByteArray)] 23)) from bl HB.out)
    clear B HB B9 HB9 y_ c00 c01 z0
    have B := b_
    have HB := n_
    clear b_ n_
    have c00 := Bs.c0 B.out 0 rfl; have c01 := Bs.c1 B.out 0 rfl; have z0 := Bs.z B.out 0 rfl; have c10 := Bs.c0 B.out 1 rfl; have c11 := Bs.c1 B.out 1 rfl; have z1 := Bs.z B.out 1 rfl
    go_wp2_with (fail)
    go_region_held3 (fun w' => w'.cell? ⟨w1.heap.size, 0, none⟩ = some (.string (⟨#[51]⟩ : ByteArray)) ∧ w'.cell? ⟨w1.heap.size, 1, none⟩ = some (.string (⟨#[50]⟩ : ByteArray)) ∧ w'.cell? ⟨wa.heap.size, 0, none⟩ = some (.string (⟨#[54]⟩ : ByteArray)) ∧ w'.cell? ⟨wa.heap.size, 1, none⟩ = some (.string (⟨#[49]⟩ : ByteArray))) (exact ⟨Bs.c0 (B.out.up climb) 0 rfl, Bs.c1 (B.out.up climb) 0 rfl, Bs.c0 (B.out.up climb) 1 rfl, Bs.c1 (B.out.up climb) 1 rfl⟩)
      (first
      | (go_at_call 16; (with_reducible refine (exact_Of.calls 6 _ _ _ (gl_below hGl (bl HB.out)) fr_of6).mono ?_); rintro _ wz ⟨rfl, hb⟩; have b_ := Aside0.mk ((B.out.up climb).up hb); have n_ := Aside0.mk (below_step (bl HB.out) hb); clear B HB hb c00 c01 z0 c10 c11 z1; have B := b_; have HB := n_; clear b_ n_; have c00 := Bs.c0 B.out 0 rfl; have c01 := Bs.c1 B.out 0 rfl; have z0 := Bs.z B.out 0 rfl; have c10 := Bs.c0 B.out 1 rfl; have c11 := Bs.c1 B.out 1 rfl; have z1 := Bs.z B.out 1 rfl))
    all_goals
      go_wp2
      go_ret
      exact ⟨rfl, bl HB.out⟩
  · obtain ⟨W, hW⟩ : ∃ W, ((wa.setCell ⟨wo.heap.size, 0, none⟩ (.string (⟨#[54]⟩ : ByteArray))).setCell ⟨wo.heap.size, 1, none⟩ (.string (⟨#[49]⟩ : ByteArray))) = W := ⟨_, rfl⟩
    rw [hW]
    have b_ := Aside0.mk (show Bs W [(w1.heap.size, (⟨#[51]⟩ : ByteArray), (⟨#[50]⟩ : ByteArray)), (wo.heap.size, (⟨#[54]⟩ : ByteArray), (⟨#[49]⟩ : ByteArray))] by rw [← hW]; exact Bs.fill B9.out y_ B.out KE.out _ _)
    have n_ := Aside0.mk (show Below w.heap.size w W by rw [← hW]; exact below_set (below_set HB.out (Nat.le_trans HB9.out.size y_)) (Nat.le_trans HB9.out.size y_))
    clear hW KE d0_ d1_ e0_ e1_
    clear B HB B9 HB9 y_ c00 c01 z0
    have B := b_
    have HB := n_
    clear b_ n_
    have c00 := Bs.c0 B.out 0 rfl; have c01 := Bs.c1 B.out 0 rfl; have z0 := Bs.z B.out 0 rfl; have c10 := Bs.c0 B.out 1 rfl; have c11 := Bs.c1 B.out 1 rfl; have z1 := Bs.z B.out 1 rfl
    go_wp2_with (fail)
    go_region_held3 (fun w' => w'.cell? ⟨w1.heap.size, 0, none⟩ = some (.string (⟨#[51]⟩ : ByteArray)) ∧ w'.cell? ⟨w1.heap.size, 1, none⟩ = some (.string (⟨#[50]⟩ : ByteArray)) ∧ w'.cell? ⟨wo.heap.size, 0, none⟩ = some (.string (⟨#[54]⟩ : ByteArray)) ∧ w'.cell? ⟨wo.heap.size, 1, none⟩ = some (.string (⟨#[49]⟩ : ByteArray))) (exact ⟨Bs.c0 (B.out.up climb) 0 rfl, Bs.c1 (B.out.up climb) 0 rfl, Bs.c0 (B.out.up climb) 1 rfl, Bs.c1 (B.out.up climb) 1 rfl⟩)
      (first
      | (go_at_call 16; (with_reducible refine (exact_Of.calls 6 _ _ _ (gl_below hGl (bl HB.out)) fr_of6).mono ?_); rintro _ wz ⟨rfl, hb⟩; have b_ := Aside0.mk ((B.out.up climb).up hb); have n_ := Aside0.mk (below_step (bl HB.out) hb); clear B HB hb c00 c01 z0 c10 c11 z1; have B := b_; have HB := n_; clear b_ n_; have c00 := Bs.c0 B.out 0 rfl; have c01 := Bs.c1 B.out 0 rfl; have z0 := Bs.z B.out 0 rfl; have c10 := Bs.c0 B.out 1 rfl; have c11 := Bs.c1 B.out 1 rfl; have z1 := Bs.z B.out 1 rfl))
    all_goals
      go_wp2
      go_ret
      exact ⟨rfl, bl HB.out⟩
  · obtain ⟨W, hW⟩ : ∃ W, ((wa.setCell ⟨w2.heap.size, 0, none⟩ (.string (⟨#[54]⟩ : ByteArray))).setCell ⟨w2.heap.size, 1, none⟩ (.string (⟨#[49]⟩ : ByteArray))) = W := ⟨_, rfl⟩
    rw [hW]
    have b_ := Aside0.mk (show Bs W [(w1.heap.size, (⟨#[51]⟩ : ByteArray), (⟨#[50]⟩ : ByteArray)), (w2.heap.size, (⟨#[54]⟩ : ByteArray), (⟨#[49]⟩ : ByteArray))] by rw [← hW]; exact Bs.fill B9.out (Nat.le_refl _) B.out KE.out _ _)
    have n_ := Aside0.mk (show Below w.heap.size w W by rw [← hW]; exact below_set (below_set HB.out (Nat.le_trans HB9.out.size (Nat.le_refl _))) (Nat.le_trans HB9.out.size (Nat.le_refl _)))
    clear hW KE d0_ d1_ e0_ e1_
    clear B HB B9 HB9 y_ c00 c01 z0
    have B := b_
    have HB := n_
    clear b_ n_
    have c00 := Bs.c0 B.out 0 rfl; have c01 := Bs.c1 B.out 0 rfl; have z0 := Bs.z B.out 0 rfl; have c10 := Bs.c0 B.out 1 rfl; have c11 := Bs.c1 B.out 1 rfl; have z1 := Bs.z B.out 1 rfl
    go_wp2_with (fail)
    go_region_held3 (fun w' => w'.cell? ⟨w1.heap.size, 0, none⟩ = some (.string (⟨#[51]⟩ : ByteArray)) ∧ w'.cell? ⟨w1.heap.size, 1, none⟩ = some (.string (⟨#[50]⟩ : ByteArray)) ∧ w'.cell? ⟨w2.heap.size, 0, none⟩ = some (.string (⟨#[54]⟩ : ByteArray)) ∧ w'.cell? ⟨w2.heap.size, 1, none⟩ = some (.string (⟨#[49]⟩ : ByteArray))) (exact ⟨Bs.c0 (B.out.up climb) 0 rfl, Bs.c1 (B.out.up climb) 0 rfl, Bs.c0 (B.out.up climb) 1 rfl, Bs.c1 (B.out.up climb) 1 rfl⟩)
      (first
      | (go_at_call 16; (with_reducible refine (exact_Of.calls 6 _ _ _ (gl_below hGl (bl HB.out)) fr_of6).mono ?_); rintro _ wz ⟨rfl, hb⟩; have b_ := Aside0.mk ((B.out.up climb).up hb); have n_ := Aside0.mk (below_step (bl HB.out) hb); clear B HB hb c00 c01 z0 c10 c11 z1; have B := b_; have HB := n_; clear b_ n_; have c00 := Bs.c0 B.out 0 rfl; have c01 := Bs.c1 B.out 0 rfl; have z0 := Bs.z B.out 0 rfl; have c10 := Bs.c0 B.out 1 rfl; have c11 := Bs.c1 B.out 1 rfl; have z1 := Bs.z B.out 1 rfl))
    all_goals
      go_wp2
      go_ret
      exact ⟨rfl, bl HB.out⟩
end Go.Proofs.YtefhcgnamfnkbaaGreatDoor.Pr
