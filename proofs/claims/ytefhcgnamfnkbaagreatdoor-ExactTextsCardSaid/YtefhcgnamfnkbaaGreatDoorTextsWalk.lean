/- The walk through ExactTexts: what its calls tell, told as premises. -/
import Derived.Test.YtefhcgnamfnkbaaGreatDoorBs
import Derived.Test.YtefhcgnamfnkbaaGreatDoorTextsOps
import Derived.Test.YtefhcgnamfnkbaaGreatDoorPrx10
import Derived.Test.YtefhcgnamfnkbaaGreatDoorPrx1
import Derived.Deep.RegionHeld3
import Derived.IntWalk
namespace Go.Proofs.YtefhcgnamfnkbaaGreatDoor.Pr
open Go.RowKit Go.Proofs.YtefhcgnamfnkbaaGreatDoorW.PrintWords Go.Proofs.YtefhcgnamfnkbaaGreatDoorW.PrintLast Go.Proofs.YtefhcgnamfnkbaaGreatDoorW.PrintMore
attribute [local go_sem high] eqA23
attribute [local go_sem] max2_int min2_int max_two min_two

set_option maxHeartbeats 4000000 in
set_option maxRecDepth 100000 in
theorem texts_walk (k : Nat) (a0 a1 : ByteArray) (n : Int) (w : World) (hGl : Gl w) (hfr : ∀ w : World, Gl w → Calls Tryz.prog 8 #[] w fun e w' => e = .returned (.bool true) ∧ Below w.heap.size w w')
    (fw : Bool) (hfew : chancerykeep2_few.f k [⟨a0, a1⟩] = some fw) (hops : fw = true → (∃ s, exact_Shortest.f k a0 a1 = some (s, false, 0) ∧ s = ⟨#[]⟩) ∨ ∃ s u v t fd j, TextsOps k a0 a1 n s u v t fd j) :
    Calls Tryz.prog 6 #[.agg #[.string a0, .string a1], .int .i64 n] w fun e w' => e = .returned (.bool true) ∧ Below w.heap.size w w' := by
  have hu23 := Tryz.underlying23
  have HF := Aside0.mk hfew
  have HP := Aside0.mk hops
  clear hfew hops
  have HB := Aside0.mk (Below.refl w.heap.size w)
  have B := Aside0.mk (show Bs (w.alloc (.cells #[.string a0, .string a1] 23)) [(w.heap.size, a0, a1)] from (Bs.empty w).add a0 a1)
  cases fw with
  | false =>
    go_enter Tryz.func6, Tryz.ntmps6
    go_wp2_with (first
      | (go_at_call 8; (with_reducible refine (hfr _ (gl_below hGl (bl HB.out))).mono ?_); rintro _ w1 ⟨rfl, hb⟩; have HBx := Aside0.mk (below_step (bl HB.out) hb); have Bx := Aside0.mk ((B.out.up climb).up hb); clear HB B hb ; have HB := HBx; have B := Bx; clear HBx Bx; have c00 := Bs.c0 B.out 0 rfl; have c01 := Bs.c1 B.out 0 rfl; have z0 := Bs.z B.out 0 rfl)
      | ((with_reducible refine gate_dst (N := 20) rfl ?_); refine Kd.R_lit k23 _ 23 ?hg (N := 20) ?hd (xs := ([⟨a0, a1⟩] : List S23)) (inner := [.string a0, .string a1]) (ok := fun _ => True) (okp := fun _ => True) ?hr ?hp (fun _ hk => hk) trivial (Below.refl _ _) (Nat.le_refl _) (by simp) ?_; (case hd => rfl); (case hg => rfl); (case hr => first | (go_simp; done) | (go_simp; rfl)); (case hp => exact Reps.front (k23_mkM _ _ _ (⟨a0, a1⟩ : S23)) rfl (Reps.none _ _) rfl); intro vF wF hoF hb hg_ hnew_; clear hg_ hnew_; obtain ⟨AF, cF, rfl⟩ := Kd.R_slice hoF; have HOF := Aside0.mk hoF; have b_ := Aside0.mk ((B.out.up climb).up hb); have n_ := Aside0.mk (below_step (bl HB.out) hb); clear B HB hoF hb c00 c01 z0; have B := b_; have HB := n_; clear b_ n_)
      | (go_at_call 9; refine (chancerykeep2_few.calls k AF cF [⟨a0, a1⟩] _ _ (Kd.R_reads' HOF.out).2.2 (Kd.R_reads' HOF.out).2.1 (gl_below hGl (bl HB.out)) HF.out).mono ?_; rintro _ w2 ⟨rfl, hb⟩; have b_ := Aside0.mk ((B.out.up climb).up hb); have n_ := Aside0.mk (below_step (bl HB.out) hb); clear B HB HOF hb; have B := b_; have HB := n_; clear b_ n_; have c00 := Bs.c0 B.out 0 rfl; have c01 := Bs.c1 B.out 0 rfl; have z0 := Bs.z B.out 0 rfl))
    go_ret
    exact ⟨rfl, bl HB.out⟩
  | true =>
    rcases HP.out rfl with ⟨s, hS, rfl⟩ | ⟨s, u, v, t, fd, j, H⟩
    · have HS := Aside0.mk hS
      clear HP hS
      go_enter Tryz.func6, Tryz.ntmps6
      go_wp2_with (first
        | (go_at_call 8; (with_reducible refine (hfr _ (gl_below hGl (bl HB.out))).mono ?_); rintro _ w1 ⟨rfl, hb⟩; have HBx := Aside0.mk (below_step (bl HB.out) hb); have Bx := Aside0.mk ((B.out.up climb).up hb); clear HB B hb ; have HB := HBx; have B := Bx; clear HBx Bx; have c00 := Bs.c0 B.out 0 rfl; have c01 := Bs.c1 B.out 0 rfl; have z0 := Bs.z B.out 0 rfl)
        | ((with_reducible refine gate_dst (N := 20) rfl ?_); refine Kd.R_lit k23 _ 23 ?hg (N := 20) ?hd (xs := ([⟨a0, a1⟩] : List S23)) (inner := [.string a0, .string a1]) (ok := fun _ => True) (okp := fun _ => True) ?hr ?hp (fun _ hk => hk) trivial (Below.refl _ _) (Nat.le_refl _) (by simp) ?_; (case hd => rfl); (case hg => rfl); (case hr => first | (go_simp; done) | (go_simp; rfl)); (case hp => exact Reps.front (k23_mkM _ _ _ (⟨a0, a1⟩ : S23)) rfl (Reps.none _ _) rfl); intro vF wF hoF hb hg_ hnew_; clear hg_ hnew_; obtain ⟨AF, cF, rfl⟩ := Kd.R_slice hoF; have HOF := Aside0.mk hoF; have b_ := Aside0.mk ((B.out.up climb).up hb); have n_ := Aside0.mk (below_step (bl HB.out) hb); clear B HB hoF hb c00 c01 z0; have B := b_; have HB := n_; clear b_ n_)
        | (go_at_call 9; refine (chancerykeep2_few.calls k AF cF [⟨a0, a1⟩] _ _ (Kd.R_reads' HOF.out).2.2 (Kd.R_reads' HOF.out).2.1 (gl_below hGl (bl HB.out)) HF.out).mono ?_; rintro _ w2 ⟨rfl, hb⟩; have b_ := Aside0.mk ((B.out.up climb).up hb); have n_ := Aside0.mk (below_step (bl HB.out) hb); clear B HB HOF hb; have B := b_; have HB := n_; clear b_ n_; have c00 := Bs.c0 B.out 0 rfl; have c01 := Bs.c1 B.out 0 rfl; have z0 := Bs.z B.out 0 rfl)
        | (go_at_call 21; (with_reducible refine (exact_Shortest.calls k a0 a1 _ _ _ _ (gl_below hGl (bl HB.out)) HS.out).mono ?_); rintro _ w3 ⟨rfl, hb⟩; have HBx := Aside0.mk (below_step (bl HB.out) hb); have Bx := Aside0.mk ((B.out.up climb).up hb); clear HB B hb c00 c01 z0; have HB := HBx; have B := Bx; clear HBx Bx; have c00 := Bs.c0 B.out 0 rfl; have c01 := Bs.c1 B.out 0 rfl; have z0 := Bs.z B.out 0 rfl))
      go_ret
      exact ⟨rfl, bl HB.out⟩
    · clear HP
      have hv := H.hv
      have hj := H.hj
      have hX := H.h12
      have hwr : IntKind.i64.wrap ((v.size : Int) + (j : Int)) = (v.size : Int) + (j : Int) := IntWalk.i64_in _ (by omega)
      obtain ⟨p, hp, hpm⟩ : ∃ p : Nat, min 100 (v.size + j) = p ∧ ((v.size + j < 100 ∧ (v.size : Int) + (j : Int) = (p : Int)) ∨ (¬ v.size + j < 100 ∧ p = 100)) := by
        refine ⟨_, rfl, ?_⟩
        by_cases h : v.size + j < 100
        · exact Or.inl ⟨h, by omega⟩
        · exact Or.inr ⟨h, by omega⟩
      rw [hp] at hX
      have HX := Aside0.mk hX
      have Hv := Aside0.mk hv
      clear hX hp hv hj
      rcases hpm with ⟨hlt, hpe⟩ | ⟨hlt, rfl⟩
      · have q1 : ((v.size : Int) + (j : Int) < 100) = True := eq_true (by omega)
        have q2 : ((p : Int) < 100) = True := eq_true (by omega)
        have q3 : (p < 100) = True := eq_true (by omega)
        have hwr2 : IntKind.i64.wrap (p : Int) = (p : Int) := IntWalk.i64_in _ (by omega)
        have q4 : (v.size + j < 100) = True := eq_true hlt
        clear hlt
        go_enter Tryz.func6, Tryz.ntmps6
        go_wp2_with (first
          | (go_at_call 8; (with_reducible refine (hfr _ (gl_below hGl (bl HB.out))).mono ?_); rintro _ w1 ⟨rfl, hb⟩; have HBx := Aside0.mk (below_step (bl HB.out) hb); have Bx := Aside0.mk ((B.out.up climb).up hb); clear HB B hb ; have HB := HBx; have B := Bx; clear HBx Bx; have c00 := Bs.c0 B.out 0 rfl; have c01 := Bs.c1 B.out 0 rfl; have z0 := Bs.z B.out 0 rfl)
          | ((with_reducible refine gate_dst (N := 20) rfl ?_); refine Kd.R_lit k23 _ 23 ?hg (N := 20) ?hd (xs := ([⟨a0, a1⟩] : List S23)) (inner := [.string a0, .string a1]) (ok := fun _ => True) (okp := fun _ => True) ?hr ?hp (fun _ hk => hk) trivial (Below.refl _ _) (Nat.le_refl _) (by simp) ?_; (case hd => rfl); (case hg => rfl); (case hr => first | (go_simp; done) | (go_simp; rfl)); (case hp => exact Reps.front (k23_mkM _ _ _ (⟨a0, a1⟩ : S23)) rfl (Reps.none _ _) rfl); intro vF wF hoF hb hg_ hnew_; clear hg_ hnew_; obtain ⟨AF, cF, rfl⟩ := Kd.R_slice hoF; have HOF := Aside0.mk hoF; have b_ := Aside0.mk ((B.out.up climb).up hb); have n_ := Aside0.mk (below_step (bl HB.out) hb); clear B HB hoF hb c00 c01 z0; have B := b_; have HB := n_; clear b_ n_)
          | (go_at_call 9; refine (chancerykeep2_few.calls k AF cF [⟨a0, a1⟩] _ _ (Kd.R_reads' HOF.out).2.2 (Kd.R_reads' HOF.out).2.1 (gl_below hGl (bl HB.out)) HF.out).mono ?_; rintro _ w2 ⟨rfl, hb⟩; have b_ := Aside0.mk ((B.out.up climb).up hb); have n_ := Aside0.mk (below_step (bl HB.out) hb); clear B HB HOF hb; have B := b_; have HB := n_; clear b_ n_; have c00 := Bs.c0 B.out 0 rfl; have c01 := Bs.c1 B.out 0 rfl; have z0 := Bs.z B.out 0 rfl)
          | (go_at_call 21; (with_reducible refine (exact_Shortest.calls k a0 a1 s true 0 _ (gl_below hGl (bl HB.out)) H.h5).mono ?_); rintro _ w3 ⟨rfl, hb⟩; have HBx := Aside0.mk (below_step (bl HB.out) hb); have Bx := Aside0.mk ((B.out.up climb).up hb); clear HB B hb c00 c01 z0; have HB := HBx; have B := Bx; clear HBx Bx; have c00 := Bs.c0 B.out 0 rfl; have c01 := Bs.c1 B.out 0 rfl; have z0 := Bs.z B.out 0 rfl)
          | (go_at_call 22; (with_reducible refine (exact_Parse.calls k s a0 a1 0 _ (gl_below hGl (bl HB.out)) H.h10).mono ?_); rintro _ w4 ⟨rfl, hb⟩; have HBx := Aside0.mk (below_step (bl HB.out) hb); have Bx := Aside0.mk ((B.out.up climb).up hb); clear HB B hb c00 c01 z0; have HB := HBx; have B := Bx; clear HBx Bx; have c00 := Bs.c0 B.out 0 rfl; have c01 := Bs.c1 B.out 0 rfl; have z0 := Bs.z B.out 0 rfl)
          | (go_at_call 23; have B1_ := Aside0.mk (B.out.add a0 a1); clear B; have B := B1_; clear B1_; (with_reducible refine (strings_Cut.calls s ⟨#[46]⟩ u v fd _ (gl_below hGl (bl HB.out)) H.h11).mono ?_); rintro _ w5 ⟨rfl, hb⟩; have HBx := Aside0.mk (below_step (bl HB.out) hb); have Bx := Aside0.mk ((B.out.up climb).up hb); clear HB B hb c00 c01 z0; have HB := HBx; have B := Bx; clear HBx Bx; have c00 := Bs.c0 B.out 0 rfl; have c01 := Bs.c1 B.out 0 rfl; have z0 := Bs.z B.out 0 rfl; have c10 := Bs.c0 B.out 1 rfl; have c11 := Bs.c1 B.out 1 rfl; have z1 := Bs.z B.out 1 rfl))
        go_region_held3 (fun w' => w'.cell? ⟨w.heap.size, 0, none⟩ = some (.string a0) ∧ w'.cell? ⟨w.heap.size, 1, none⟩ = some (.string a1)) (exact ⟨Bs.c0 (B.out.up climb) 0 rfl, Bs.c1 (B.out.up climb) 0 rfl⟩)
          (first
          | (go_at_call 18; (with_reducible refine (chancerykeep2_mod.calls n 5 (j : Int) _ (gl_below hGl (bl HB.out)) H.hm).mono ?_); rintro _ w6 ⟨rfl, hd⟩; have hb := hd.below; have HBx := Aside0.mk (below_step (bl HB.out) hb); have Bx := Aside0.mk ((B.out.up climb).up hb); clear HB B hb c00 c01 z0 c10 c11 z1; have HB := HBx; have B := Bx; clear HBx Bx; have c00 := Bs.c0 B.out 0 rfl; have c01 := Bs.c1 B.out 0 rfl; have z0 := Bs.z B.out 0 rfl; have c10 := Bs.c0 B.out 1 rfl; have c11 := Bs.c1 B.out 1 rfl; have z1 := Bs.z B.out 1 rfl)
          | (go_at_call 24; refine (exact_Fixed.calls k a0 a1 p t 0 _ (gl_below hGl (bl HB.out)) HX.out).mono ?_; rintro _ w7 ⟨rfl, hb⟩; have HBx := Aside0.mk (below_step (bl HB.out) hb); have Bx := Aside0.mk ((B.out.up climb).up hb); clear HB B hb c00 c01 z0 c10 c11 z1; have HB := HBx; have B := Bx; clear HBx Bx; have c00 := Bs.c0 B.out 0 rfl; have c01 := Bs.c1 B.out 0 rfl; have z0 := Bs.z B.out 0 rfl; have c10 := Bs.c0 B.out 1 rfl; have c11 := Bs.c1 B.out 1 rfl; have z1 := Bs.z B.out 1 rfl))
        clear hwr hwr2 q2 q3 hpe q1 q4
        by_cases hlen : v.size ≤ 100
        · have HY := Aside0.mk (H.h15 hlen)
          have t1 : ((100 : Int) < (v.size : Int)) = False := eq_false (by omega)
          have t2 : (100 < v.size) = False := eq_false (by omega)
          go_wp2_with (first | (go_at_call 22; (with_reducible refine (exact_Parse.calls k t a0 a1 0 _ (gl_below hGl (bl HB.out)) HY.out).mono ?_); rintro _ w8 ⟨rfl, hb⟩; have HBx := Aside0.mk (below_step (bl HB.out) hb); have Bx := Aside0.mk ((B.out.up climb).up hb); clear HB B hb c00 c01 z0 c10 c11 z1; have HB := HBx; have B := Bx; clear HBx Bx; have c00 := Bs.c0 B.out 0 rfl; have c01 := Bs.c1 B.out 0 rfl; have z0 := Bs.z B.out 0 rfl; have c10 := Bs.c0 B.out 1 rfl; have c11 := Bs.c1 B.out 1 rfl; have z1 := Bs.z B.out 1 rfl))
          go_ret
          exact ⟨rfl, bl HB.out⟩
        · have t1 : ((100 : Int) < (v.size : Int)) = True := eq_true (by omega)
          have t2 : (100 < v.size) = True := eq_true (by omega)
          go_wp2
          go_ret
          exact ⟨rfl, bl HB.out⟩
      · have q1 : ((v.size : Int) + (j : Int) < 100) = False := eq_false (by omega)
        have q4 : (v.size + j < 100) = False := eq_false hlt
        clear hlt
        go_enter Tryz.func6, Tryz.ntmps6
        go_wp2_with (first
          | (go_at_call 8; (with_reducible refine (hfr _ (gl_below hGl (bl HB.out))).mono ?_); rintro _ w1 ⟨rfl, hb⟩; have HBx := Aside0.mk (below_step (bl HB.out) hb); have Bx := Aside0.mk ((B.out.up climb).up hb); clear HB B hb ; have HB := HBx; have B := Bx; clear HBx Bx; have c00 := Bs.c0 B.out 0 rfl; have c01 := Bs.c1 B.out 0 rfl; have z0 := Bs.z B.out 0 rfl)
          | ((with_reducible refine gate_dst (N := 20) rfl ?_); refine Kd.R_lit k23 _ 23 ?hg (N := 20) ?hd (xs := ([⟨a0, a1⟩] : List S23)) (inner := [.string a0, .string a1]) (ok := fun _ => True) (okp := fun _ => True) ?hr ?hp (fun _ hk => hk) trivial (Below.refl _ _) (Nat.le_refl _) (by simp) ?_; (case hd => rfl); (case hg => rfl); (case hr => first | (go_simp; done) | (go_simp; rfl)); (case hp => exact Reps.front (k23_mkM _ _ _ (⟨a0, a1⟩ : S23)) rfl (Reps.none _ _) rfl); intro vF wF hoF hb hg_ hnew_; clear hg_ hnew_; obtain ⟨AF, cF, rfl⟩ := Kd.R_slice hoF; have HOF := Aside0.mk hoF; have b_ := Aside0.mk ((B.out.up climb).up hb); have n_ := Aside0.mk (below_step (bl HB.out) hb); clear B HB hoF hb c00 c01 z0; have B := b_; have HB := n_; clear b_ n_)
          | (go_at_call 9; refine (chancerykeep2_few.calls k AF cF [⟨a0, a1⟩] _ _ (Kd.R_reads' HOF.out).2.2 (Kd.R_reads' HOF.out).2.1 (gl_below hGl (bl HB.out)) HF.out).mono ?_; rintro _ w2 ⟨rfl, hb⟩; have b_ := Aside0.mk ((B.out.up climb).up hb); have n_ := Aside0.mk (below_step (bl HB.out) hb); clear B HB HOF hb; have B := b_; have HB := n_; clear b_ n_; have c00 := Bs.c0 B.out 0 rfl; have c01 := Bs.c1 B.out 0 rfl; have z0 := Bs.z B.out 0 rfl)
          | (go_at_call 21; (with_reducible refine (exact_Shortest.calls k a0 a1 s true 0 _ (gl_below hGl (bl HB.out)) H.h5).mono ?_); rintro _ w3 ⟨rfl, hb⟩; have HBx := Aside0.mk (below_step (bl HB.out) hb); have Bx := Aside0.mk ((B.out.up climb).up hb); clear HB B hb c00 c01 z0; have HB := HBx; have B := Bx; clear HBx Bx; have c00 := Bs.c0 B.out 0 rfl; have c01 := Bs.c1 B.out 0 rfl; have z0 := Bs.z B.out 0 rfl)
          | (go_at_call 22; (with_reducible refine (exact_Parse.calls k s a0 a1 0 _ (gl_below hGl (bl HB.out)) H.h10).mono ?_); rintro _ w4 ⟨rfl, hb⟩; have HBx := Aside0.mk (below_step (bl HB.out) hb); have Bx := Aside0.mk ((B.out.up climb).up hb); clear HB B hb c00 c01 z0; have HB := HBx; have B := Bx; clear HBx Bx; have c00 := Bs.c0 B.out 0 rfl; have c01 := Bs.c1 B.out 0 rfl; have z0 := Bs.z B.out 0 rfl)
          | (go_at_call 23; have B1_ := Aside0.mk (B.out.add a0 a1); clear B; have B := B1_; clear B1_; (with_reducible refine (strings_Cut.calls s ⟨#[46]⟩ u v fd _ (gl_below hGl (bl HB.out)) H.h11).mono ?_); rintro _ w5 ⟨rfl, hb⟩; have HBx := Aside0.mk (below_step (bl HB.out) hb); have Bx := Aside0.mk ((B.out.up climb).up hb); clear HB B hb c00 c01 z0; have HB := HBx; have B := Bx; clear HBx Bx; have c00 := Bs.c0 B.out 0 rfl; have c01 := Bs.c1 B.out 0 rfl; have z0 := Bs.z B.out 0 rfl; have c10 := Bs.c0 B.out 1 rfl; have c11 := Bs.c1 B.out 1 rfl; have z1 := Bs.z B.out 1 rfl))
        go_region_held3 (fun w' => w'.cell? ⟨w.heap.size, 0, none⟩ = some (.string a0) ∧ w'.cell? ⟨w.heap.size, 1, none⟩ = some (.string a1)) (exact ⟨Bs.c0 (B.out.up climb) 0 rfl, Bs.c1 (B.out.up climb) 0 rfl⟩)
          (first
          | (go_at_call 18; (with_reducible refine (chancerykeep2_mod.calls n 5 (j : Int) _ (gl_below hGl (bl HB.out)) H.hm).mono ?_); rintro _ w6 ⟨rfl, hd⟩; have hb := hd.below; have HBx := Aside0.mk (below_step (bl HB.out) hb); have Bx := Aside0.mk ((B.out.up climb).up hb); clear HB B hb c00 c01 z0 c10 c11 z1; have HB := HBx; have B := Bx; clear HBx Bx; have c00 := Bs.c0 B.out 0 rfl; have c01 := Bs.c1 B.out 0 rfl; have z0 := Bs.z B.out 0 rfl; have c10 := Bs.c0 B.out 1 rfl; have c11 := Bs.c1 B.out 1 rfl; have z1 := Bs.z B.out 1 rfl)
          | (go_at_call 24; refine (exact_Fixed.calls k a0 a1 100 t 0 _ (gl_below hGl (bl HB.out)) HX.out).mono ?_; rintro _ w7 ⟨rfl, hb⟩; have HBx := Aside0.mk (below_step (bl HB.out) hb); have Bx := Aside0.mk ((B.out.up climb).up hb); clear HB B hb c00 c01 z0 c10 c11 z1; have HB := HBx; have B := Bx; clear HBx Bx; have c00 := Bs.c0 B.out 0 rfl; have c01 := Bs.c1 B.out 0 rfl; have z0 := Bs.z B.out 0 rfl; have c10 := Bs.c0 B.out 1 rfl; have c11 := Bs.c1 B.out 1 rfl; have z1 := Bs.z B.out 1 rfl))
        clear hwr q1 q4
        by_cases hlen : v.size ≤ 100
        · have HY := Aside0.mk (H.h15 hlen)
          have t1 : ((100 : Int) < (v.size : Int)) = False := eq_false (by omega)
          have t2 : (100 < v.size) = False := eq_false (by omega)
          go_wp2_with (first | (go_at_call 22; (with_reducible refine (exact_Parse.calls k t a0 a1 0 _ (gl_below hGl (bl HB.out)) HY.out).mono ?_); rintro _ w8 ⟨rfl, hb⟩; have HBx := Aside0.mk (below_step (bl HB.out) hb); have Bx := Aside0.mk ((B.out.up climb).up hb); clear HB B hb c00 c01 z0 c10 c11 z1; have HB := HBx; have B := Bx; clear HBx Bx; have c00 := Bs.c0 B.out 0 rfl; have c01 := Bs.c1 B.out 0 rfl; have z0 := Bs.z B.out 0 rfl; have c10 := Bs.c0 B.out 1 rfl; have c11 := Bs.c1 B.out 1 rfl; have z1 := Bs.z B.out 1 rfl))
          go_ret
          exact ⟨rfl, bl HB.out⟩
        · have t1 : ((100 : Int) < (v.size : Int)) = True := eq_true (by omega)
          have t2 : (100 < v.size) = True := eq_true (by omega)
          go_wp2
          go_ret
          exact ⟨rfl, bl HB.out⟩
end Go.Proofs.YtefhcgnamfnkbaaGreatDoor.Pr
