/- The walk through ExactField: what its calls tell, told as premises. -/
import Derived.Test.YtefhcgnamfnkbaaGreatDoorFieldOps
import Derived.Test.YtefhcgnamfnkbaaGreatDoorPrx10
import Derived.Test.YtefhcgnamfnkbaaGreatDoorPrx1
import Derived.Test.YtefhcgnamfnkbaaGreatDoorV
namespace Go.Proofs.YtefhcgnamfnkbaaGreatDoor.Pr
open Go.RowKit Go.Proofs.YtefhcgnamfnkbaaGreatDoorW.PrintWords Go.Proofs.YtefhcgnamfnkbaaGreatDoorW.PrintLast Go.Proofs.YtefhcgnamfnkbaaGreatDoorW.PrintMore
attribute [local go_sem high] eqA23
set_option linter.unusedVariables false
set_option linter.unusedSimpArgs false

/-- A box of a fraction. -/
abbrev Bx (W : World) (g : Nat) (s t : ByteArray) : Prop := W.heap[g]? = some (.cells #[.string s, .string t] 23 (0, 0))
theorem bx0 {W : World} {g : Nat} {s t : ByteArray} (h : Bx W g s t) : W.cell? ⟨g, 0, none⟩ = some (.string s) := (blk_cell h 0).trans rfl
theorem bx1 {W : World} {g : Nat} {s t : ByteArray} (h : Bx W g s t) : W.cell? ⟨g, 1, none⟩ = some (.string t) := (blk_cell h 1).trans rfl
theorem bx_put {W : World} {g : Nat} {s t : ByteArray} (h : Bx W g s t) (s' t' : ByteArray) : Bx ((W.setCell ⟨g, 0, none⟩ (.string s')).setCell ⟨g, 1, none⟩ (.string t')) g s' t' := blk_set (blk_set h 0 (.string s')) 1 (.string t')
theorem bx_far {W : World} {g g' : Nat} {s t : ByteArray} (h : Bx W g s t) (hne : g ≠ g') (u v : Value) : Bx ((W.setCell ⟨g', 0, none⟩ u).setCell ⟨g', 1, none⟩ v) g s t := blk_far (blk_far h (p := ⟨g', 0, none⟩) hne u) (p := ⟨g', 1, none⟩) hne v

set_option maxHeartbeats 8000000 in
set_option maxRecDepth 100000 in
theorem field_walk (k : Nat) (a0 a1 b0 b1 c0 c1 : ByteArray) (w : World) (hGl : Gl w) (hfr : ∀ w : World, Gl w → Calls Tryz.prog 8 #[] w fun e w' => e = .returned (.bool true) ∧ Below w.heap.size w w')
    (fw : Bool) (hfew : chancerykeep2_few.f k [⟨a0, a1⟩, ⟨b0, b1⟩, ⟨c0, c1⟩] = some fw) (hops : fw = true → ∃ ab0 ab1 bc0 bc1 x0 x1 p0 p1 q0 q1 r0 r1 u0 u1, FieldOps k a0 a1 b0 b1 c0 c1 ab0 ab1 bc0 bc1 x0 x1 p0 p1 q0 q1 r0 r1 u0 u1) :
    Calls Tryz.prog 3 #[.agg #[.string a0, .string a1], .agg #[.string b0, .string b1], .agg #[.string c0, .string c1]] w fun e w' => e = .returned (.bool true) ∧ Below w.heap.size w w' := by
  have hu23 := Tryz.underlying23
  have HF := Aside0.mk hfew
  have HP := Aside0.mk hops
  clear hfew hops
  have HB := Aside0.mk (Below.refl w.heap.size w)
  go_enter Tryz.func3, Tryz.ntmps3
  go_upto_region 1 with (first | ((with_reducible refine gate_dst (N := 3) rfl ?_); refine box_event ?hg (N := 3) ?hd (cs := #[.string a0, .string a1]) (t := 23) ?hr ?_; (case hd => rfl); (case hg => rfl); (case hr => first | (go_simp; done) | (go_simp; rfl)); intro g3 hg w3 hbox hb; have nE_ := Aside0.mk ((by rw [hg]; exact HB.out.size) : w.heap.size ≤ g3); have nB_ := Aside0.mk (below_step HB.out hb); clear HB; have HB := nB_; clear nB_; have K3 := Aside0.mk hbox; have E3 := nE_; clear nE_ hbox hb hg) | ((with_reducible refine gate_dst (N := 4) rfl ?_); refine box_event ?hg (N := 4) ?hd (cs := #[.string b0, .string b1]) (t := 23) ?hr ?_; (case hd => rfl); (case hg => rfl); (case hr => first | (go_simp; done) | (go_simp; rfl)); intro g4 hg w4 hbox hb; have n3_ := Aside0.mk (blk_below K3.out hb); have d3_ := Aside0.mk ((by rw [hg]; exact Nat.ne_of_lt (blk_lt K3.out)) : g3 ≠ g4); have nE_ := Aside0.mk ((by rw [hg]; exact HB.out.size) : w.heap.size ≤ g4); have nB_ := Aside0.mk (below_step HB.out hb); clear HB; have HB := nB_; clear nB_; clear K3; have K3 := n3_; clear n3_; have K4 := Aside0.mk hbox; have E4 := nE_; clear nE_ hbox hb hg; have D3_4 := d3_; clear d3_) | ((with_reducible refine gate_dst (N := 5) rfl ?_); refine box_event ?hg (N := 5) ?hd (cs := #[.string c0, .string c1]) (t := 23) ?hr ?_; (case hd => rfl); (case hg => rfl); (case hr => first | (go_simp; done) | (go_simp; rfl)); intro g5 hg w5 hbox hb; have n3_ := Aside0.mk (blk_below K3.out hb); have d3_ := Aside0.mk ((by rw [hg]; exact Nat.ne_of_lt (blk_lt K3.out)) : g3 ≠ g5); have n4_ := Aside0.mk (blk_below K4.out hb); have d4_ := Aside0.mk ((by rw [hg]; exact Nat.ne_of_lt (blk_lt K4.out)) : g4 ≠ g5); have nE_ := Aside0.mk ((by rw [hg]; exact HB.out.size) : w.heap.size ≤ g5); have nB_ := Aside0.mk (below_step HB.out hb); clear HB; have HB := nB_; clear nB_; clear K3; have K3 := n3_; clear n3_; clear K4; have K4 := n4_; clear n4_; have K5 := Aside0.mk hbox; have E5 := nE_; clear nE_ hbox hb hg; have D3_5 := d3_; clear d3_; have D4_5 := d4_; clear d4_))
  go_upto_region 3 with (go_at_call 8; refine (hfr _ (gl_below hGl HB.out)).mono ?_; rintro e w8 ⟨rfl, hb⟩; have n3_ := Aside0.mk (blk_below K3.out hb); have n4_ := Aside0.mk (blk_below K4.out hb); have n5_ := Aside0.mk (blk_below K5.out hb); have nB_ := Aside0.mk (below_step HB.out hb); clear K3 K4 K5 HB hb; have K3 := n3_; have K4 := n4_; have K5 := n5_; have HB := nB_; clear n3_ n4_ n5_ nB_)
  have c30 := bx0 K3.out
  have c31 := bx1 K3.out
  have c40 := bx0 K4.out
  have c41 := bx1 K4.out
  have c50 := bx0 K5.out
  have c51 := bx1 K5.out
  cases fw with
  | false =>
    go_wp2_with (first | ((with_reducible refine gate_dst (N := 36) rfl ?_); refine Kd.R_lit k23 _ 23 ?hg (N := 36) ?hd (xs := ([⟨a0, a1⟩, ⟨b0, b1⟩, ⟨c0, c1⟩] : List S23)) (inner := [.string a0, .string a1, .string b0, .string b1, .string c0, .string c1]) (ok := fun _ => True) (okp := fun _ => True) ?hr ?hp (fun _ hk => hk) trivial (Below.refl _ _) (Nat.le_refl _) (by simp) ?_; (case hd => rfl); (case hg => rfl); (case hr => first | (go_simp; done) | (go_simp; rfl)); (case hp => exact Reps.front (k23_mkM _ _ _ (⟨a0, a1⟩ : S23)) rfl (Reps.front (k23_mkM _ _ _ (⟨b0, b1⟩ : S23)) rfl (Reps.front (k23_mkM _ _ _ (⟨c0, c1⟩ : S23)) rfl (Reps.none _ _) rfl) rfl) rfl); intro vF wF hoF hb hg_ hnew_; clear hg_ hnew_; obtain ⟨AF, cF, rfl⟩ := Kd.R_slice hoF; have HOF := Aside0.mk hoF; clear hoF; have n3_ := Aside0.mk (blk_below K3.out hb); have n4_ := Aside0.mk (blk_below K4.out hb); have n5_ := Aside0.mk (blk_below K5.out hb); have nB_ := Aside0.mk (below_step HB.out hb); clear K3 K4 K5 HB hb c30 c31 c40 c41 c50 c51; have K3 := n3_; have K4 := n4_; have K5 := n5_; have HB := nB_; clear n3_ n4_ n5_ nB_) | (go_at_call 9; refine (chancerykeep2_few.calls k AF cF [⟨a0, a1⟩, ⟨b0, b1⟩, ⟨c0, c1⟩] _ _ (Kd.R_reads' HOF.out).2.2 (Kd.R_reads' HOF.out).2.1 (gl_below hGl HB.out) HF.out).mono ?_; rintro e w9 ⟨rfl, hb⟩; have n3_ := Aside0.mk (blk_below K3.out hb); have n4_ := Aside0.mk (blk_below K4.out hb); have n5_ := Aside0.mk (blk_below K5.out hb); have nB_ := Aside0.mk (below_step HB.out hb); clear K3 K4 K5 HB hb HOF; have K3 := n3_; have K4 := n4_; have K5 := n5_; have HB := nB_; clear n3_ n4_ n5_ nB_))
    go_ret
    exact ⟨rfl, HB.out⟩
  | true =>
    obtain ⟨ab0, ab1, bc0, bc1, x0, x1, p0, p1, q0, q1, r0, r1, u0, u1, H⟩ := HP.out rfl
    clear HP
    go_upto_region 5 with (first | ((with_reducible refine gate_dst (N := 36) rfl ?_); refine Kd.R_lit k23 _ 23 ?hg (N := 36) ?hd (xs := ([⟨a0, a1⟩, ⟨b0, b1⟩, ⟨c0, c1⟩] : List S23)) (inner := [.string a0, .string a1, .string b0, .string b1, .string c0, .string c1]) (ok := fun _ => True) (okp := fun _ => True) ?hr ?hp (fun _ hk => hk) trivial (Below.refl _ _) (Nat.le_refl _) (by simp) ?_; (case hd => rfl); (case hg => rfl); (case hr => first | (go_simp; done) | (go_simp; rfl)); (case hp => exact Reps.front (k23_mkM _ _ _ (⟨a0, a1⟩ : S23)) rfl (Reps.front (k23_mkM _ _ _ (⟨b0, b1⟩ : S23)) rfl (Reps.front (k23_mkM _ _ _ (⟨c0, c1⟩ : S23)) rfl (Reps.none _ _) rfl) rfl) rfl); intro vF wF hoF hb hg_ hnew_; clear hg_ hnew_; obtain ⟨AF, cF, rfl⟩ := Kd.R_slice hoF; have HOF := Aside0.mk hoF; clear hoF; have n3_ := Aside0.mk (blk_below K3.out hb); have n4_ := Aside0.mk (blk_below K4.out hb); have n5_ := Aside0.mk (blk_below K5.out hb); have nB_ := Aside0.mk (below_step HB.out hb); clear K3 K4 K5 HB hb c30 c31 c40 c41 c50 c51; have K3 := n3_; have K4 := n4_; have K5 := n5_; have HB := nB_; clear n3_ n4_ n5_ nB_) | (go_at_call 9; refine (chancerykeep2_few.calls k AF cF [⟨a0, a1⟩, ⟨b0, b1⟩, ⟨c0, c1⟩] _ _ (Kd.R_reads' HOF.out).2.2 (Kd.R_reads' HOF.out).2.1 (gl_below hGl HB.out) HF.out).mono ?_; rintro e w9 ⟨rfl, hb⟩; have n3_ := Aside0.mk (blk_below K3.out hb); have n4_ := Aside0.mk (blk_below K4.out hb); have n5_ := Aside0.mk (blk_below K5.out hb); have nB_ := Aside0.mk (below_step HB.out hb); clear K3 K4 K5 HB hb HOF; have K3 := n3_; have K4 := n4_; have K5 := n5_; have HB := nB_; clear n3_ n4_ n5_ nB_))
    have c30 := bx0 K3.out
    have c31 := bx1 K3.out
    have c40 := bx0 K4.out
    have c41 := bx1 K4.out
    go_upto_region 6 with (first | (go_at_call 10; refine (exact_Add.calls k a0 a1 b0 b1 ab0 ab1 0 _ (gl_below hGl HB.out) H.h5).mono ?_; rintro e wA5 ⟨rfl, hb⟩; have n3_ := Aside0.mk (blk_below K3.out hb); have n4_ := Aside0.mk (blk_below K4.out hb); have n5_ := Aside0.mk (blk_below K5.out hb); have nB_ := Aside0.mk (below_step HB.out hb); clear K3 K4 K5 HB hb c30 c31 c40 c41; have K3 := n3_; clear n3_; have K4 := n4_; clear n4_; have K5 := n5_; clear n5_; have HB := nB_; clear nB_) | ((with_reducible refine gate_dst (N := 7) rfl ?_); refine box_event ?hg (N := 7) ?hd (cs := #[.string (⟨#[]⟩ : ByteArray), .string (⟨#[]⟩ : ByteArray)]) (t := 23) ?hr ?_; (case hd => rfl); (case hg => rfl); (case hr => first | (go_simp; done) | (go_simp; rfl)); intro g7 hg wB5 hbox hb; have n3_ := Aside0.mk (blk_below K3.out hb); have D3_7 := Aside0.mk ((by rw [hg]; exact Nat.ne_of_lt (blk_lt K3.out)) : g3 ≠ g7); have n4_ := Aside0.mk (blk_below K4.out hb); have D4_7 := Aside0.mk ((by rw [hg]; exact Nat.ne_of_lt (blk_lt K4.out)) : g4 ≠ g7); have n5_ := Aside0.mk (blk_below K5.out hb); have D5_7 := Aside0.mk ((by rw [hg]; exact Nat.ne_of_lt (blk_lt K5.out)) : g5 ≠ g7); have nE_ := Aside0.mk ((by rw [hg]; exact HB.out.size) : w.heap.size ≤ g7); have nB_ := Aside0.mk (below_step HB.out hb); clear HB hg hb K3 K4 K5; have K3 := n3_; clear n3_; have K4 := n4_; clear n4_; have K5 := n5_; clear n5_; have HB := nB_; have E7 := nE_; clear nB_ nE_; have e0 := bx0 hbox; have f0 := blk_frozen hbox 0; have hb2 := blk_set hbox 0 (.string ab0); have e1 := (blk_cell hb2 1).trans rfl; have f1 := blk_frozen hb2 1; have K7 := Aside0.mk hbox; clear hbox hb2))
    obtain ⟨wC5, hW⟩ : ∃ W, (wB5.setCell ⟨g7, 0, none⟩ (.string ab0)).setCell ⟨g7, 1, none⟩ (.string ab1) = W := ⟨_, rfl⟩
    rw [hW]
    clear e0 f0 e1 f1
    have n3_ := Aside0.mk (show Bx wC5 g3 _ _ by rw [← hW]; exact bx_far K3.out D3_7.out _ _)
    have n4_ := Aside0.mk (show Bx wC5 g4 _ _ by rw [← hW]; exact bx_far K4.out D4_7.out _ _)
    have n5_ := Aside0.mk (show Bx wC5 g5 _ _ by rw [← hW]; exact bx_far K5.out D5_7.out _ _)
    have nn_ := Aside0.mk (show Bx wC5 g7 ab0 ab1 by rw [← hW]; exact bx_put K7.out ab0 ab1)
    have nB_ := Aside0.mk (show Below w.heap.size w wC5 by rw [← hW]; exact below_set (below_set HB.out E7.out) E7.out)
    clear HB hW K3 K4 K5 K7
    have K3 := n3_
    have K4 := n4_
    have K5 := n5_
    have K7 := nn_
    have HB := nB_
    clear nn_ nB_ n3_ n4_ n5_
    have c40 := bx0 K4.out
    have c41 := bx1 K4.out
    have c50 := bx0 K5.out
    have c51 := bx1 K5.out
    go_upto_region 7 with (first | (go_at_call 10; refine (exact_Add.calls k b0 b1 c0 c1 bc0 bc1 0 _ (gl_below hGl HB.out) H.h6).mono ?_; rintro e wA6 ⟨rfl, hb⟩; have n3_ := Aside0.mk (blk_below K3.out hb); have n4_ := Aside0.mk (blk_below K4.out hb); have n5_ := Aside0.mk (blk_below K5.out hb); have n7_ := Aside0.mk (blk_below K7.out hb); have nB_ := Aside0.mk (below_step HB.out hb); clear K3 K4 K5 K7 HB hb c40 c41 c50 c51; have K3 := n3_; clear n3_; have K4 := n4_; clear n4_; have K5 := n5_; clear n5_; have K7 := n7_; clear n7_; have HB := nB_; clear nB_) | ((with_reducible refine gate_dst (N := 9) rfl ?_); refine box_event ?hg (N := 9) ?hd (cs := #[.string (⟨#[]⟩ : ByteArray), .string (⟨#[]⟩ : ByteArray)]) (t := 23) ?hr ?_; (case hd => rfl); (case hg => rfl); (case hr => first | (go_simp; done) | (go_simp; rfl)); intro g9 hg wB6 hbox hb; have n3_ := Aside0.mk (blk_below K3.out hb); have D3_9 := Aside0.mk ((by rw [hg]; exact Nat.ne_of_lt (blk_lt K3.out)) : g3 ≠ g9); have n4_ := Aside0.mk (blk_below K4.out hb); have D4_9 := Aside0.mk ((by rw [hg]; exact Nat.ne_of_lt (blk_lt K4.out)) : g4 ≠ g9); have n5_ := Aside0.mk (blk_below K5.out hb); have D5_9 := Aside0.mk ((by rw [hg]; exact Nat.ne_of_lt (blk_lt K5.out)) : g5 ≠ g9); have n7_ := Aside0.mk (blk_below K7.out hb); have D7_9 := Aside0.mk ((by rw [hg]; exact Nat.ne_of_lt (blk_lt K7.out)) : g7 ≠ g9); have nE_ := Aside0.mk ((by rw [hg]; exact HB.out.size) : w.heap.size ≤ g9); have nB_ := Aside0.mk (below_step HB.out hb); clear HB hg hb K3 K4 K5 K7; have K3 := n3_; clear n3_; have K4 := n4_; clear n4_; have K5 := n5_; clear n5_; have K7 := n7_; clear n7_; have HB := nB_; have E9 := nE_; clear nB_ nE_; have e0 := bx0 hbox; have f0 := blk_frozen hbox 0; have hb2 := blk_set hbox 0 (.string bc0); have e1 := (blk_cell hb2 1).trans rfl; have f1 := blk_frozen hb2 1; have K9 := Aside0.mk hbox; clear hbox hb2))
    obtain ⟨wC6, hW⟩ : ∃ W, (wB6.setCell ⟨g9, 0, none⟩ (.string bc0)).setCell ⟨g9, 1, none⟩ (.string bc1) = W := ⟨_, rfl⟩
    rw [hW]
    clear e0 f0 e1 f1
    have n3_ := Aside0.mk (show Bx wC6 g3 _ _ by rw [← hW]; exact bx_far K3.out D3_9.out _ _)
    have n4_ := Aside0.mk (show Bx wC6 g4 _ _ by rw [← hW]; exact bx_far K4.out D4_9.out _ _)
    have n5_ := Aside0.mk (show Bx wC6 g5 _ _ by rw [← hW]; exact bx_far K5.out D5_9.out _ _)
    have n7_ := Aside0.mk (show Bx wC6 g7 _ _ by rw [← hW]; exact bx_far K7.out D7_9.out _ _)
    have nn_ := Aside0.mk (show Bx wC6 g9 bc0 bc1 by rw [← hW]; exact bx_put K9.out bc0 bc1)
    have nB_ := Aside0.mk (show Below w.heap.size w wC6 by rw [← hW]; exact below_set (below_set HB.out E9.out) E9.out)
    clear HB hW K3 K4 K5 K7 K9
    have K3 := n3_
    have K4 := n4_
    have K5 := n5_
    have K7 := n7_
    have K9 := nn_
    have HB := nB_
    clear nn_ nB_ n3_ n4_ n5_ n7_
    have c50 := bx0 K5.out
    have c51 := bx1 K5.out
    have c70 := bx0 K7.out
    have c71 := bx1 K7.out
    go_upto_region 8 with (first | (go_at_call 10; refine (exact_Add.calls k ab0 ab1 c0 c1 x0 x1 0 _ (gl_below hGl HB.out) H.h7).mono ?_; rintro e wA7 ⟨rfl, hb⟩; have n3_ := Aside0.mk (blk_below K3.out hb); have n4_ := Aside0.mk (blk_below K4.out hb); have n5_ := Aside0.mk (blk_below K5.out hb); have n7_ := Aside0.mk (blk_below K7.out hb); have n9_ := Aside0.mk (blk_below K9.out hb); have nB_ := Aside0.mk (below_step HB.out hb); clear K3 K4 K5 K7 K9 HB hb c50 c51 c70 c71; have K3 := n3_; clear n3_; have K4 := n4_; clear n4_; have K5 := n5_; clear n5_; have K7 := n7_; clear n7_; have K9 := n9_; clear n9_; have HB := nB_; clear nB_) | ((with_reducible refine gate_dst (N := 11) rfl ?_); refine box_event ?hg (N := 11) ?hd (cs := #[.string (⟨#[]⟩ : ByteArray), .string (⟨#[]⟩ : ByteArray)]) (t := 23) ?hr ?_; (case hd => rfl); (case hg => rfl); (case hr => first | (go_simp; done) | (go_simp; rfl)); intro g11 hg wB7 hbox hb; have n3_ := Aside0.mk (blk_below K3.out hb); have D3_11 := Aside0.mk ((by rw [hg]; exact Nat.ne_of_lt (blk_lt K3.out)) : g3 ≠ g11); have n4_ := Aside0.mk (blk_below K4.out hb); have D4_11 := Aside0.mk ((by rw [hg]; exact Nat.ne_of_lt (blk_lt K4.out)) : g4 ≠ g11); have n5_ := Aside0.mk (blk_below K5.out hb); have D5_11 := Aside0.mk ((by rw [hg]; exact Nat.ne_of_lt (blk_lt K5.out)) : g5 ≠ g11); have n7_ := Aside0.mk (blk_below K7.out hb); have D7_11 := Aside0.mk ((by rw [hg]; exact Nat.ne_of_lt (blk_lt K7.out)) : g7 ≠ g11); have n9_ := Aside0.mk (blk_below K9.out hb); have D9_11 := Aside0.mk ((by rw [hg]; exact Nat.ne_of_lt (blk_lt K9.out)) : g9 ≠ g11); have nE_ := Aside0.mk ((by rw [hg]; exact HB.out.size) : w.heap.size ≤ g11); have nB_ := Aside0.mk (below_step HB.out hb); clear HB hg hb K3 K4 K5 K7 K9; have K3 := n3_; clear n3_; have K4 := n4_; clear n4_; have K5 := n5_; clear n5_; have K7 := n7_; clear n7_; have K9 := n9_; clear n9_; have HB := nB_; have E11 := nE_; clear nB_ nE_; have e0 := bx0 hbox; have f0 := blk_frozen hbox 0; have hb2 := blk_set hbox 0 (.string x0); have e1 := (blk_cell hb2 1).trans rfl; have f1 := blk_frozen hb2 1; have K11 := Aside0.mk hbox; clear hbox hb2))
    obtain ⟨wC7, hW⟩ : ∃ W, (wB7.setCell ⟨g11, 0, none⟩ (.string x0)).setCell ⟨g11, 1, none⟩ (.string x1) = W := ⟨_, rfl⟩
    rw [hW]
    clear e0 f0 e1 f1
    have n3_ := Aside0.mk (show Bx wC7 g3 _ _ by rw [← hW]; exact bx_far K3.out D3_11.out _ _)
    have n4_ := Aside0.mk (show Bx wC7 g4 _ _ by rw [← hW]; exact bx_far K4.out D4_11.out _ _)
    have n5_ := Aside0.mk (show Bx wC7 g5 _ _ by rw [← hW]; exact bx_far K5.out D5_11.out _ _)
    have n7_ := Aside0.mk (show Bx wC7 g7 _ _ by rw [← hW]; exact bx_far K7.out D7_11.out _ _)
    have n9_ := Aside0.mk (show Bx wC7 g9 _ _ by rw [← hW]; exact bx_far K9.out D9_11.out _ _)
    have nn_ := Aside0.mk (show Bx wC7 g11 x0 x1 by rw [← hW]; exact bx_put K11.out x0 x1)
    have nB_ := Aside0.mk (show Below w.heap.size w wC7 by rw [← hW]; exact below_set (below_set HB.out E11.out) E11.out)
    clear HB hW K3 K4 K5 K7 K9 K11
    have K3 := n3_
    have K4 := n4_
    have K5 := n5_
    have K7 := n7_
    have K9 := n9_
    have K11 := nn_
    have HB := nB_
    clear nn_ nB_ n3_ n4_ n5_ n7_ n9_
    have c30 := bx0 K3.out
    have c31 := bx1 K3.out
    have c90 := bx0 K9.out
    have c91 := bx1 K9.out
    go_upto_region 9 with (first | (go_at_call 10; refine (exact_Add.calls k a0 a1 bc0 bc1 x0 x1 0 _ (gl_below hGl HB.out) H.h8).mono ?_; rintro e wA8 ⟨rfl, hb⟩; have n3_ := Aside0.mk (blk_below K3.out hb); have n4_ := Aside0.mk (blk_below K4.out hb); have n5_ := Aside0.mk (blk_below K5.out hb); have n7_ := Aside0.mk (blk_below K7.out hb); have n9_ := Aside0.mk (blk_below K9.out hb); have n11_ := Aside0.mk (blk_below K11.out hb); have nB_ := Aside0.mk (below_step HB.out hb); clear K3 K4 K5 K7 K9 K11 HB hb c30 c31 c90 c91; have K3 := n3_; clear n3_; have K4 := n4_; clear n4_; have K5 := n5_; clear n5_; have K7 := n7_; clear n7_; have K9 := n9_; clear n9_; have K11 := n11_; clear n11_; have HB := nB_; clear nB_) | ((with_reducible refine gate_dst (N := 13) rfl ?_); refine box_event ?hg (N := 13) ?hd (cs := #[.string (⟨#[]⟩ : ByteArray), .string (⟨#[]⟩ : ByteArray)]) (t := 23) ?hr ?_; (case hd => rfl); (case hg => rfl); (case hr => first | (go_simp; done) | (go_simp; rfl)); intro g13 hg wB8 hbox hb; have n3_ := Aside0.mk (blk_below K3.out hb); have D3_13 := Aside0.mk ((by rw [hg]; exact Nat.ne_of_lt (blk_lt K3.out)) : g3 ≠ g13); have n4_ := Aside0.mk (blk_below K4.out hb); have D4_13 := Aside0.mk ((by rw [hg]; exact Nat.ne_of_lt (blk_lt K4.out)) : g4 ≠ g13); have n5_ := Aside0.mk (blk_below K5.out hb); have D5_13 := Aside0.mk ((by rw [hg]; exact Nat.ne_of_lt (blk_lt K5.out)) : g5 ≠ g13); have n7_ := Aside0.mk (blk_below K7.out hb); have D7_13 := Aside0.mk ((by rw [hg]; exact Nat.ne_of_lt (blk_lt K7.out)) : g7 ≠ g13); have n9_ := Aside0.mk (blk_below K9.out hb); have D9_13 := Aside0.mk ((by rw [hg]; exact Nat.ne_of_lt (blk_lt K9.out)) : g9 ≠ g13); have n11_ := Aside0.mk (blk_below K11.out hb); have D11_13 := Aside0.mk ((by rw [hg]; exact Nat.ne_of_lt (blk_lt K11.out)) : g11 ≠ g13); have nE_ := Aside0.mk ((by rw [hg]; exact HB.out.size) : w.heap.size ≤ g13); have nB_ := Aside0.mk (below_step HB.out hb); clear HB hg hb K3 K4 K5 K7 K9 K11; have K3 := n3_; clear n3_; have K4 := n4_; clear n4_; have K5 := n5_; clear n5_; have K7 := n7_; clear n7_; have K9 := n9_; clear n9_; have K11 := n11_; clear n11_; have HB := nB_; have E13 := nE_; clear nB_ nE_; have e0 := bx0 hbox; have f0 := blk_frozen hbox 0; have hb2 := blk_set hbox 0 (.string x0); have e1 := (blk_cell hb2 1).trans rfl; have f1 := blk_frozen hb2 1; have K13 := Aside0.mk hbox; clear hbox hb2))
    obtain ⟨wC8, hW⟩ : ∃ W, (wB8.setCell ⟨g13, 0, none⟩ (.string x0)).setCell ⟨g13, 1, none⟩ (.string x1) = W := ⟨_, rfl⟩
    rw [hW]
    clear e0 f0 e1 f1
    have n3_ := Aside0.mk (show Bx wC8 g3 _ _ by rw [← hW]; exact bx_far K3.out D3_13.out _ _)
    have n4_ := Aside0.mk (show Bx wC8 g4 _ _ by rw [← hW]; exact bx_far K4.out D4_13.out _ _)
    have n5_ := Aside0.mk (show Bx wC8 g5 _ _ by rw [← hW]; exact bx_far K5.out D5_13.out _ _)
    have n7_ := Aside0.mk (show Bx wC8 g7 _ _ by rw [← hW]; exact bx_far K7.out D7_13.out _ _)
    have n9_ := Aside0.mk (show Bx wC8 g9 _ _ by rw [← hW]; exact bx_far K9.out D9_13.out _ _)
    have n11_ := Aside0.mk (show Bx wC8 g11 _ _ by rw [← hW]; exact bx_far K11.out D11_13.out _ _)
    have nn_ := Aside0.mk (show Bx wC8 g13 x0 x1 by rw [← hW]; exact bx_put K13.out x0 x1)
    have nB_ := Aside0.mk (show Below w.heap.size w wC8 by rw [← hW]; exact below_set (below_set HB.out E13.out) E13.out)
    clear HB hW K3 K4 K5 K7 K9 K11 K13
    have K3 := n3_
    have K4 := n4_
    have K5 := n5_
    have K7 := n7_
    have K9 := n9_
    have K11 := n11_
    have K13 := nn_
    have HB := nB_
    clear nn_ nB_ n3_ n4_ n5_ n7_ n9_ n11_
    have c30 := bx0 K3.out
    have c31 := bx1 K3.out
    have c90 := bx0 K9.out
    have c91 := bx1 K9.out
    go_upto_region 10 with (first | (go_at_call 11; refine (exact_Mul.calls k a0 a1 bc0 bc1 p0 p1 0 _ (gl_below hGl HB.out) H.h9).mono ?_; rintro e wA9 ⟨rfl, hb⟩; have n3_ := Aside0.mk (blk_below K3.out hb); have n4_ := Aside0.mk (blk_below K4.out hb); have n5_ := Aside0.mk (blk_below K5.out hb); have n7_ := Aside0.mk (blk_below K7.out hb); have n9_ := Aside0.mk (blk_below K9.out hb); have n11_ := Aside0.mk (blk_below K11.out hb); have n13_ := Aside0.mk (blk_below K13.out hb); have nB_ := Aside0.mk (below_step HB.out hb); clear K3 K4 K5 K7 K9 K11 K13 HB hb c30 c31 c90 c91; have K3 := n3_; clear n3_; have K4 := n4_; clear n4_; have K5 := n5_; clear n5_; have K7 := n7_; clear n7_; have K9 := n9_; clear n9_; have K11 := n11_; clear n11_; have K13 := n13_; clear n13_; have HB := nB_; clear nB_) | ((with_reducible refine gate_dst (N := 15) rfl ?_); refine box_event ?hg (N := 15) ?hd (cs := #[.string (⟨#[]⟩ : ByteArray), .string (⟨#[]⟩ : ByteArray)]) (t := 23) ?hr ?_; (case hd => rfl); (case hg => rfl); (case hr => first | (go_simp; done) | (go_simp; rfl)); intro g15 hg wB9 hbox hb; have n3_ := Aside0.mk (blk_below K3.out hb); have D3_15 := Aside0.mk ((by rw [hg]; exact Nat.ne_of_lt (blk_lt K3.out)) : g3 ≠ g15); have n4_ := Aside0.mk (blk_below K4.out hb); have D4_15 := Aside0.mk ((by rw [hg]; exact Nat.ne_of_lt (blk_lt K4.out)) : g4 ≠ g15); have n5_ := Aside0.mk (blk_below K5.out hb); have D5_15 := Aside0.mk ((by rw [hg]; exact Nat.ne_of_lt (blk_lt K5.out)) : g5 ≠ g15); have n7_ := Aside0.mk (blk_below K7.out hb); have D7_15 := Aside0.mk ((by rw [hg]; exact Nat.ne_of_lt (blk_lt K7.out)) : g7 ≠ g15); have n9_ := Aside0.mk (blk_below K9.out hb); have D9_15 := Aside0.mk ((by rw [hg]; exact Nat.ne_of_lt (blk_lt K9.out)) : g9 ≠ g15); have n11_ := Aside0.mk (blk_below K11.out hb); have D11_15 := Aside0.mk ((by rw [hg]; exact Nat.ne_of_lt (blk_lt K11.out)) : g11 ≠ g15); have n13_ := Aside0.mk (blk_below K13.out hb); have D13_15 := Aside0.mk ((by rw [hg]; exact Nat.ne_of_lt (blk_lt K13.out)) : g13 ≠ g15); have nE_ := Aside0.mk ((by rw [hg]; exact HB.out.size) : w.heap.size ≤ g15); have nB_ := Aside0.mk (below_step HB.out hb); clear HB hg hb K3 K4 K5 K7 K9 K11 K13; have K3 := n3_; clear n3_; have K4 := n4_; clear n4_; have K5 := n5_; clear n5_; have K7 := n7_; clear n7_; have K9 := n9_; clear n9_; have K11 := n11_; clear n11_; have K13 := n13_; clear n13_; have HB := nB_; have E15 := nE_; clear nB_ nE_; have e0 := bx0 hbox; have f0 := blk_frozen hbox 0; have hb2 := blk_set hbox 0 (.string p0); have e1 := (blk_cell hb2 1).trans rfl; have f1 := blk_frozen hb2 1; have K15 := Aside0.mk hbox; clear hbox hb2))
    obtain ⟨wC9, hW⟩ : ∃ W, (wB9.setCell ⟨g15, 0, none⟩ (.string p0)).setCell ⟨g15, 1, none⟩ (.string p1) = W := ⟨_, rfl⟩
    rw [hW]
    clear e0 f0 e1 f1
    have n3_ := Aside0.mk (show Bx wC9 g3 _ _ by rw [← hW]; exact bx_far K3.out D3_15.out _ _)
    have n4_ := Aside0.mk (show Bx wC9 g4 _ _ by rw [← hW]; exact bx_far K4.out D4_15.out _ _)
    have n5_ := Aside0.mk (show Bx wC9 g5 _ _ by rw [← hW]; exact bx_far K5.out D5_15.out _ _)
    have n7_ := Aside0.mk (show Bx wC9 g7 _ _ by rw [← hW]; exact bx_far K7.out D7_15.out _ _)
    have n9_ := Aside0.mk (show Bx wC9 g9 _ _ by rw [← hW]; exact bx_far K9.out D9_15.out _ _)
    have n11_ := Aside0.mk (show Bx wC9 g11 _ _ by rw [← hW]; exact bx_far K11.out D11_15.out _ _)
    have n13_ := Aside0.mk (show Bx wC9 g13 _ _ by rw [← hW]; exact bx_far K13.out D13_15.out _ _)
    have nn_ := Aside0.mk (show Bx wC9 g15 p0 p1 by rw [← hW]; exact bx_put K15.out p0 p1)
    have nB_ := Aside0.mk (show Below w.heap.size w wC9 by rw [← hW]; exact below_set (below_set HB.out E15.out) E15.out)
    clear HB hW K3 K4 K5 K7 K9 K11 K13 K15
    have K3 := n3_
    have K4 := n4_
    have K5 := n5_
    have K7 := n7_
    have K9 := n9_
    have K11 := n11_
    have K13 := n13_
    have K15 := nn_
    have HB := nB_
    clear nn_ nB_ n3_ n4_ n5_ n7_ n9_ n11_ n13_
    have c30 := bx0 K3.out
    have c31 := bx1 K3.out
    have c40 := bx0 K4.out
    have c41 := bx1 K4.out
    go_upto_region 11 with (first | (go_at_call 11; refine (exact_Mul.calls k a0 a1 b0 b1 q0 q1 0 _ (gl_below hGl HB.out) H.h10).mono ?_; rintro e wA10 ⟨rfl, hb⟩; have n3_ := Aside0.mk (blk_below K3.out hb); have n4_ := Aside0.mk (blk_below K4.out hb); have n5_ := Aside0.mk (blk_below K5.out hb); have n7_ := Aside0.mk (blk_below K7.out hb); have n9_ := Aside0.mk (blk_below K9.out hb); have n11_ := Aside0.mk (blk_below K11.out hb); have n13_ := Aside0.mk (blk_below K13.out hb); have n15_ := Aside0.mk (blk_below K15.out hb); have nB_ := Aside0.mk (below_step HB.out hb); clear K3 K4 K5 K7 K9 K11 K13 K15 HB hb c30 c31 c40 c41; have K3 := n3_; clear n3_; have K4 := n4_; clear n4_; have K5 := n5_; clear n5_; have K7 := n7_; clear n7_; have K9 := n9_; clear n9_; have K11 := n11_; clear n11_; have K13 := n13_; clear n13_; have K15 := n15_; clear n15_; have HB := nB_; clear nB_) | ((with_reducible refine gate_dst (N := 17) rfl ?_); refine box_event ?hg (N := 17) ?hd (cs := #[.string (⟨#[]⟩ : ByteArray), .string (⟨#[]⟩ : ByteArray)]) (t := 23) ?hr ?_; (case hd => rfl); (case hg => rfl); (case hr => first | (go_simp; done) | (go_simp; rfl)); intro g17 hg wB10 hbox hb; have n3_ := Aside0.mk (blk_below K3.out hb); have D3_17 := Aside0.mk ((by rw [hg]; exact Nat.ne_of_lt (blk_lt K3.out)) : g3 ≠ g17); have n4_ := Aside0.mk (blk_below K4.out hb); have D4_17 := Aside0.mk ((by rw [hg]; exact Nat.ne_of_lt (blk_lt K4.out)) : g4 ≠ g17); have n5_ := Aside0.mk (blk_below K5.out hb); have D5_17 := Aside0.mk ((by rw [hg]; exact Nat.ne_of_lt (blk_lt K5.out)) : g5 ≠ g17); have n7_ := Aside0.mk (blk_below K7.out hb); have D7_17 := Aside0.mk ((by rw [hg]; exact Nat.ne_of_lt (blk_lt K7.out)) : g7 ≠ g17); have n9_ := Aside0.mk (blk_below K9.out hb); have D9_17 := Aside0.mk ((by rw [hg]; exact Nat.ne_of_lt (blk_lt K9.out)) : g9 ≠ g17); have n11_ := Aside0.mk (blk_below K11.out hb); have D11_17 := Aside0.mk ((by rw [hg]; exact Nat.ne_of_lt (blk_lt K11.out)) : g11 ≠ g17); have n13_ := Aside0.mk (blk_below K13.out hb); have D13_17 := Aside0.mk ((by rw [hg]; exact Nat.ne_of_lt (blk_lt K13.out)) : g13 ≠ g17); have n15_ := Aside0.mk (blk_below K15.out hb); have D15_17 := Aside0.mk ((by rw [hg]; exact Nat.ne_of_lt (blk_lt K15.out)) : g15 ≠ g17); have nE_ := Aside0.mk ((by rw [hg]; exact HB.out.size) : w.heap.size ≤ g17); have nB_ := Aside0.mk (below_step HB.out hb); clear HB hg hb K3 K4 K5 K7 K9 K11 K13 K15; have K3 := n3_; clear n3_; have K4 := n4_; clear n4_; have K5 := n5_; clear n5_; have K7 := n7_; clear n7_; have K9 := n9_; clear n9_; have K11 := n11_; clear n11_; have K13 := n13_; clear n13_; have K15 := n15_; clear n15_; have HB := nB_; have E17 := nE_; clear nB_ nE_; have e0 := bx0 hbox; have f0 := blk_frozen hbox 0; have hb2 := blk_set hbox 0 (.string q0); have e1 := (blk_cell hb2 1).trans rfl; have f1 := blk_frozen hb2 1; have K17 := Aside0.mk hbox; clear hbox hb2))
    obtain ⟨wC10, hW⟩ : ∃ W, (wB10.setCell ⟨g17, 0, none⟩ (.string q0)).setCell ⟨g17, 1, none⟩ (.string q1) = W := ⟨_, rfl⟩
    rw [hW]
    clear e0 f0 e1 f1
    have n3_ := Aside0.mk (show Bx wC10 g3 _ _ by rw [← hW]; exact bx_far K3.out D3_17.out _ _)
    have n4_ := Aside0.mk (show Bx wC10 g4 _ _ by rw [← hW]; exact bx_far K4.out D4_17.out _ _)
    have n5_ := Aside0.mk (show Bx wC10 g5 _ _ by rw [← hW]; exact bx_far K5.out D5_17.out _ _)
    have n7_ := Aside0.mk (show Bx wC10 g7 _ _ by rw [← hW]; exact bx_far K7.out D7_17.out _ _)
    have n9_ := Aside0.mk (show Bx wC10 g9 _ _ by rw [← hW]; exact bx_far K9.out D9_17.out _ _)
    have n11_ := Aside0.mk (show Bx wC10 g11 _ _ by rw [← hW]; exact bx_far K11.out D11_17.out _ _)
    have n13_ := Aside0.mk (show Bx wC10 g13 _ _ by rw [← hW]; exact bx_far K13.out D13_17.out _ _)
    have n15_ := Aside0.mk (show Bx wC10 g15 _ _ by rw [← hW]; exact bx_far K15.out D15_17.out _ _)
    have nn_ := Aside0.mk (show Bx wC10 g17 q0 q1 by rw [← hW]; exact bx_put K17.out q0 q1)
    have nB_ := Aside0.mk (show Below w.heap.size w wC10 by rw [← hW]; exact below_set (below_set HB.out E17.out) E17.out)
    clear HB hW K3 K4 K5 K7 K9 K11 K13 K15 K17
    have K3 := n3_
    have K4 := n4_
    have K5 := n5_
    have K7 := n7_
    have K9 := n9_
    have K11 := n11_
    have K13 := n13_
    have K15 := n15_
    have K17 := nn_
    have HB := nB_
    clear nn_ nB_ n3_ n4_ n5_ n7_ n9_ n11_ n13_ n15_
    have c30 := bx0 K3.out
    have c31 := bx1 K3.out
    have c50 := bx0 K5.out
    have c51 := bx1 K5.out
    go_upto_region 12 with (first | (go_at_call 11; refine (exact_Mul.calls k a0 a1 c0 c1 r0 r1 0 _ (gl_below hGl HB.out) H.h11).mono ?_; rintro e wA11 ⟨rfl, hb⟩; have n3_ := Aside0.mk (blk_below K3.out hb); have n4_ := Aside0.mk (blk_below K4.out hb); have n5_ := Aside0.mk (blk_below K5.out hb); have n7_ := Aside0.mk (blk_below K7.out hb); have n9_ := Aside0.mk (blk_below K9.out hb); have n11_ := Aside0.mk (blk_below K11.out hb); have n13_ := Aside0.mk (blk_below K13.out hb); have n15_ := Aside0.mk (blk_below K15.out hb); have n17_ := Aside0.mk (blk_below K17.out hb); have nB_ := Aside0.mk (below_step HB.out hb); clear K3 K4 K5 K7 K9 K11 K13 K15 K17 HB hb c30 c31 c50 c51; have K3 := n3_; clear n3_; have K4 := n4_; clear n4_; have K5 := n5_; clear n5_; have K7 := n7_; clear n7_; have K9 := n9_; clear n9_; have K11 := n11_; clear n11_; have K13 := n13_; clear n13_; have K15 := n15_; clear n15_; have K17 := n17_; clear n17_; have HB := nB_; clear nB_) | ((with_reducible refine gate_dst (N := 19) rfl ?_); refine box_event ?hg (N := 19) ?hd (cs := #[.string (⟨#[]⟩ : ByteArray), .string (⟨#[]⟩ : ByteArray)]) (t := 23) ?hr ?_; (case hd => rfl); (case hg => rfl); (case hr => first | (go_simp; done) | (go_simp; rfl)); intro g19 hg wB11 hbox hb; have n3_ := Aside0.mk (blk_below K3.out hb); have D3_19 := Aside0.mk ((by rw [hg]; exact Nat.ne_of_lt (blk_lt K3.out)) : g3 ≠ g19); have n4_ := Aside0.mk (blk_below K4.out hb); have D4_19 := Aside0.mk ((by rw [hg]; exact Nat.ne_of_lt (blk_lt K4.out)) : g4 ≠ g19); have n5_ := Aside0.mk (blk_below K5.out hb); have D5_19 := Aside0.mk ((by rw [hg]; exact Nat.ne_of_lt (blk_lt K5.out)) : g5 ≠ g19); have n7_ := Aside0.mk (blk_below K7.out hb); have D7_19 := Aside0.mk ((by rw [hg]; exact Nat.ne_of_lt (blk_lt K7.out)) : g7 ≠ g19); have n9_ := Aside0.mk (blk_below K9.out hb); have D9_19 := Aside0.mk ((by rw [hg]; exact Nat.ne_of_lt (blk_lt K9.out)) : g9 ≠ g19); have n11_ := Aside0.mk (blk_below K11.out hb); have D11_19 := Aside0.mk ((by rw [hg]; exact Nat.ne_of_lt (blk_lt K11.out)) : g11 ≠ g19); have n13_ := Aside0.mk (blk_below K13.out hb); have D13_19 := Aside0.mk ((by rw [hg]; exact Nat.ne_of_lt (blk_lt K13.out)) : g13 ≠ g19); have n15_ := Aside0.mk (blk_below K15.out hb); have D15_19 := Aside0.mk ((by rw [hg]; exact Nat.ne_of_lt (blk_lt K15.out)) : g15 ≠ g19); have n17_ := Aside0.mk (blk_below K17.out hb); have D17_19 := Aside0.mk ((by rw [hg]; exact Nat.ne_of_lt (blk_lt K17.out)) : g17 ≠ g19); have nE_ := Aside0.mk ((by rw [hg]; exact HB.out.size) : w.heap.size ≤ g19); have nB_ := Aside0.mk (below_step HB.out hb); clear HB hg hb K3 K4 K5 K7 K9 K11 K13 K15 K17; have K3 := n3_; clear n3_; have K4 := n4_; clear n4_; have K5 := n5_; clear n5_; have K7 := n7_; clear n7_; have K9 := n9_; clear n9_; have K11 := n11_; clear n11_; have K13 := n13_; clear n13_; have K15 := n15_; clear n15_; have K17 := n17_; clear n17_; have HB := nB_; have E19 := nE_; clear nB_ nE_; have e0 := bx0 hbox; have f0 := blk_frozen hbox 0; have hb2 := blk_set hbox 0 (.string r0); have e1 := (blk_cell hb2 1).trans rfl; have f1 := blk_frozen hb2 1; have K19 := Aside0.mk hbox; clear hbox hb2))
    obtain ⟨wC11, hW⟩ : ∃ W, (wB11.setCell ⟨g19, 0, none⟩ (.string r0)).setCell ⟨g19, 1, none⟩ (.string r1) = W := ⟨_, rfl⟩
    rw [hW]
    clear e0 f0 e1 f1
    have n3_ := Aside0.mk (show Bx wC11 g3 _ _ by rw [← hW]; exact bx_far K3.out D3_19.out _ _)
    have n4_ := Aside0.mk (show Bx wC11 g4 _ _ by rw [← hW]; exact bx_far K4.out D4_19.out _ _)
    have n5_ := Aside0.mk (show Bx wC11 g5 _ _ by rw [← hW]; exact bx_far K5.out D5_19.out _ _)
    have n7_ := Aside0.mk (show Bx wC11 g7 _ _ by rw [← hW]; exact bx_far K7.out D7_19.out _ _)
    have n9_ := Aside0.mk (show Bx wC11 g9 _ _ by rw [← hW]; exact bx_far K9.out D9_19.out _ _)
    have n11_ := Aside0.mk (show Bx wC11 g11 _ _ by rw [← hW]; exact bx_far K11.out D11_19.out _ _)
    have n13_ := Aside0.mk (show Bx wC11 g13 _ _ by rw [← hW]; exact bx_far K13.out D13_19.out _ _)
    have n15_ := Aside0.mk (show Bx wC11 g15 _ _ by rw [← hW]; exact bx_far K15.out D15_19.out _ _)
    have n17_ := Aside0.mk (show Bx wC11 g17 _ _ by rw [← hW]; exact bx_far K17.out D17_19.out _ _)
    have nn_ := Aside0.mk (show Bx wC11 g19 r0 r1 by rw [← hW]; exact bx_put K19.out r0 r1)
    have nB_ := Aside0.mk (show Below w.heap.size w wC11 by rw [← hW]; exact below_set (below_set HB.out E19.out) E19.out)
    clear HB hW K3 K4 K5 K7 K9 K11 K13 K15 K17 K19
    have K3 := n3_
    have K4 := n4_
    have K5 := n5_
    have K7 := n7_
    have K9 := n9_
    have K11 := n11_
    have K13 := n13_
    have K15 := n15_
    have K17 := n17_
    have K19 := nn_
    have HB := nB_
    clear nn_ nB_ n3_ n4_ n5_ n7_ n9_ n11_ n13_ n15_ n17_
    have c170 := bx0 K17.out
    have c171 := bx1 K17.out
    have c190 := bx0 K19.out
    have c191 := bx1 K19.out
    go_upto_region 13 with (first | (go_at_call 10; refine (exact_Add.calls k q0 q1 r0 r1 p0 p1 0 _ (gl_below hGl HB.out) H.h12).mono ?_; rintro e wA12 ⟨rfl, hb⟩; have n3_ := Aside0.mk (blk_below K3.out hb); have n4_ := Aside0.mk (blk_below K4.out hb); have n5_ := Aside0.mk (blk_below K5.out hb); have n7_ := Aside0.mk (blk_below K7.out hb); have n9_ := Aside0.mk (blk_below K9.out hb); have n11_ := Aside0.mk (blk_below K11.out hb); have n13_ := Aside0.mk (blk_below K13.out hb); have n15_ := Aside0.mk (blk_below K15.out hb); have n17_ := Aside0.mk (blk_below K17.out hb); have n19_ := Aside0.mk (blk_below K19.out hb); have nB_ := Aside0.mk (below_step HB.out hb); clear K3 K4 K5 K7 K9 K11 K13 K15 K17 K19 HB hb c170 c171 c190 c191; have K3 := n3_; clear n3_; have K4 := n4_; clear n4_; have K5 := n5_; clear n5_; have K7 := n7_; clear n7_; have K9 := n9_; clear n9_; have K11 := n11_; clear n11_; have K13 := n13_; clear n13_; have K15 := n15_; clear n15_; have K17 := n17_; clear n17_; have K19 := n19_; clear n19_; have HB := nB_; clear nB_) | ((with_reducible refine gate_dst (N := 21) rfl ?_); refine box_event ?hg (N := 21) ?hd (cs := #[.string (⟨#[]⟩ : ByteArray), .string (⟨#[]⟩ : ByteArray)]) (t := 23) ?hr ?_; (case hd => rfl); (case hg => rfl); (case hr => first | (go_simp; done) | (go_simp; rfl)); intro g21 hg wB12 hbox hb; have n3_ := Aside0.mk (blk_below K3.out hb); have D3_21 := Aside0.mk ((by rw [hg]; exact Nat.ne_of_lt (blk_lt K3.out)) : g3 ≠ g21); have n4_ := Aside0.mk (blk_below K4.out hb); have D4_21 := Aside0.mk ((by rw [hg]; exact Nat.ne_of_lt (blk_lt K4.out)) : g4 ≠ g21); have n5_ := Aside0.mk (blk_below K5.out hb); have D5_21 := Aside0.mk ((by rw [hg]; exact Nat.ne_of_lt (blk_lt K5.out)) : g5 ≠ g21); have n7_ := Aside0.mk (blk_below K7.out hb); have D7_21 := Aside0.mk ((by rw [hg]; exact Nat.ne_of_lt (blk_lt K7.out)) : g7 ≠ g21); have n9_ := Aside0.mk (blk_below K9.out hb); have D9_21 := Aside0.mk ((by rw [hg]; exact Nat.ne_of_lt (blk_lt K9.out)) : g9 ≠ g21); have n11_ := Aside0.mk (blk_below K11.out hb); have D11_21 := Aside0.mk ((by rw [hg]; exact Nat.ne_of_lt (blk_lt K11.out)) : g11 ≠ g21); have n13_ := Aside0.mk (blk_below K13.out hb); have D13_21 := Aside0.mk ((by rw [hg]; exact Nat.ne_of_lt (blk_lt K13.out)) : g13 ≠ g21); have n15_ := Aside0.mk (blk_below K15.out hb); have D15_21 := Aside0.mk ((by rw [hg]; exact Nat.ne_of_lt (blk_lt K15.out)) : g15 ≠ g21); have n17_ := Aside0.mk (blk_below K17.out hb); have D17_21 := Aside0.mk ((by rw [hg]; exact Nat.ne_of_lt (blk_lt K17.out)) : g17 ≠ g21); have n19_ := Aside0.mk (blk_below K19.out hb); have D19_21 := Aside0.mk ((by rw [hg]; exact Nat.ne_of_lt (blk_lt K19.out)) : g19 ≠ g21); have nE_ := Aside0.mk ((by rw [hg]; exact HB.out.size) : w.heap.size ≤ g21); have nB_ := Aside0.mk (below_step HB.out hb); clear HB hg hb K3 K4 K5 K7 K9 K11 K13 K15 K17 K19; have K3 := n3_; clear n3_; have K4 := n4_; clear n4_; have K5 := n5_; clear n5_; have K7 := n7_; clear n7_; have K9 := n9_; clear n9_; have K11 := n11_; clear n11_; have K13 := n13_; clear n13_; have K15 := n15_; clear n15_; have K17 := n17_; clear n17_; have K19 := n19_; clear n19_; have HB := nB_; have E21 := nE_; clear nB_ nE_; have e0 := bx0 hbox; have f0 := blk_frozen hbox 0; have hb2 := blk_set hbox 0 (.string p0); have e1 := (blk_cell hb2 1).trans rfl; have f1 := blk_frozen hb2 1; have K21 := Aside0.mk hbox; clear hbox hb2))
    obtain ⟨wC12, hW⟩ : ∃ W, (wB12.setCell ⟨g21, 0, none⟩ (.string p0)).setCell ⟨g21, 1, none⟩ (.string p1) = W := ⟨_, rfl⟩
    rw [hW]
    clear e0 f0 e1 f1
    have n3_ := Aside0.mk (show Bx wC12 g3 _ _ by rw [← hW]; exact bx_far K3.out D3_21.out _ _)
    have n4_ := Aside0.mk (show Bx wC12 g4 _ _ by rw [← hW]; exact bx_far K4.out D4_21.out _ _)
    have n5_ := Aside0.mk (show Bx wC12 g5 _ _ by rw [← hW]; exact bx_far K5.out D5_21.out _ _)
    have n7_ := Aside0.mk (show Bx wC12 g7 _ _ by rw [← hW]; exact bx_far K7.out D7_21.out _ _)
    have n9_ := Aside0.mk (show Bx wC12 g9 _ _ by rw [← hW]; exact bx_far K9.out D9_21.out _ _)
    have n11_ := Aside0.mk (show Bx wC12 g11 _ _ by rw [← hW]; exact bx_far K11.out D11_21.out _ _)
    have n13_ := Aside0.mk (show Bx wC12 g13 _ _ by rw [← hW]; exact bx_far K13.out D13_21.out _ _)
    have n15_ := Aside0.mk (show Bx wC12 g15 _ _ by rw [← hW]; exact bx_far K15.out D15_21.out _ _)
    have n17_ := Aside0.mk (show Bx wC12 g17 _ _ by rw [← hW]; exact bx_far K17.out D17_21.out _ _)
    have n19_ := Aside0.mk (show Bx wC12 g19 _ _ by rw [← hW]; exact bx_far K19.out D19_21.out _ _)
    have nn_ := Aside0.mk (show Bx wC12 g21 p0 p1 by rw [← hW]; exact bx_put K21.out p0 p1)
    have nB_ := Aside0.mk (show Below w.heap.size w wC12 by rw [← hW]; exact below_set (below_set HB.out E21.out) E21.out)
    clear HB hW K3 K4 K5 K7 K9 K11 K13 K15 K17 K19 K21
    have K3 := n3_
    have K4 := n4_
    have K5 := n5_
    have K7 := n7_
    have K9 := n9_
    have K11 := n11_
    have K13 := n13_
    have K15 := n15_
    have K17 := n17_
    have K19 := n19_
    have K21 := nn_
    have HB := nB_
    clear nn_ nB_ n3_ n4_ n5_ n7_ n9_ n11_ n13_ n15_ n17_ n19_
    have c30 := bx0 K3.out
    have c31 := bx1 K3.out
    have c40 := bx0 K4.out
    have c41 := bx1 K4.out
    go_upto_region 14 with (first | (go_at_call 10; refine (exact_Add.calls k b0 b1 a0 a1 ab0 ab1 0 _ (gl_below hGl HB.out) H.h13).mono ?_; rintro e wA13 ⟨rfl, hb⟩; have n3_ := Aside0.mk (blk_below K3.out hb); have n4_ := Aside0.mk (blk_below K4.out hb); have n5_ := Aside0.mk (blk_below K5.out hb); have n7_ := Aside0.mk (blk_below K7.out hb); have n9_ := Aside0.mk (blk_below K9.out hb); have n11_ := Aside0.mk (blk_below K11.out hb); have n13_ := Aside0.mk (blk_below K13.out hb); have n15_ := Aside0.mk (blk_below K15.out hb); have n17_ := Aside0.mk (blk_below K17.out hb); have n19_ := Aside0.mk (blk_below K19.out hb); have n21_ := Aside0.mk (blk_below K21.out hb); have nB_ := Aside0.mk (below_step HB.out hb); clear K3 K4 K5 K7 K9 K11 K13 K15 K17 K19 K21 HB hb c30 c31 c40 c41; have K3 := n3_; clear n3_; have K4 := n4_; clear n4_; have K5 := n5_; clear n5_; have K7 := n7_; clear n7_; have K9 := n9_; clear n9_; have K11 := n11_; clear n11_; have K13 := n13_; clear n13_; have K15 := n15_; clear n15_; have K17 := n17_; clear n17_; have K19 := n19_; clear n19_; have K21 := n21_; clear n21_; have HB := nB_; clear nB_) | ((with_reducible refine gate_dst (N := 23) rfl ?_); refine box_event ?hg (N := 23) ?hd (cs := #[.string (⟨#[]⟩ : ByteArray), .string (⟨#[]⟩ : ByteArray)]) (t := 23) ?hr ?_; (case hd => rfl); (case hg => rfl); (case hr => first | (go_simp; done) | (go_simp; rfl)); intro g23 hg wB13 hbox hb; have n3_ := Aside0.mk (blk_below K3.out hb); have D3_23 := Aside0.mk ((by rw [hg]; exact Nat.ne_of_lt (blk_lt K3.out)) : g3 ≠ g23); have n4_ := Aside0.mk (blk_below K4.out hb); have D4_23 := Aside0.mk ((by rw [hg]; exact Nat.ne_of_lt (blk_lt K4.out)) : g4 ≠ g23); have n5_ := Aside0.mk (blk_below K5.out hb); have D5_23 := Aside0.mk ((by rw [hg]; exact Nat.ne_of_lt (blk_lt K5.out)) : g5 ≠ g23); have n7_ := Aside0.mk (blk_below K7.out hb); have D7_23 := Aside0.mk ((by rw [hg]; exact Nat.ne_of_lt (blk_lt K7.out)) : g7 ≠ g23); have n9_ := Aside0.mk (blk_below K9.out hb); have D9_23 := Aside0.mk ((by rw [hg]; exact Nat.ne_of_lt (blk_lt K9.out)) : g9 ≠ g23); have n11_ := Aside0.mk (blk_below K11.out hb); have D11_23 := Aside0.mk ((by rw [hg]; exact Nat.ne_of_lt (blk_lt K11.out)) : g11 ≠ g23); have n13_ := Aside0.mk (blk_below K13.out hb); have D13_23 := Aside0.mk ((by rw [hg]; exact Nat.ne_of_lt (blk_lt K13.out)) : g13 ≠ g23); have n15_ := Aside0.mk (blk_below K15.out hb); have D15_23 := Aside0.mk ((by rw [hg]; exact Nat.ne_of_lt (blk_lt K15.out)) : g15 ≠ g23); have n17_ := Aside0.mk (blk_below K17.out hb); have D17_23 := Aside0.mk ((by rw [hg]; exact Nat.ne_of_lt (blk_lt K17.out)) : g17 ≠ g23); have n19_ := Aside0.mk (blk_below K19.out hb); have D19_23 := Aside0.mk ((by rw [hg]; exact Nat.ne_of_lt (blk_lt K19.out)) : g19 ≠ g23); have n21_ := Aside0.mk (blk_below K21.out hb); have D21_23 := Aside0.mk ((by rw [hg]; exact Nat.ne_of_lt (blk_lt K21.out)) : g21 ≠ g23); have nE_ := Aside0.mk ((by rw [hg]; exact HB.out.size) : w.heap.size ≤ g23); have nB_ := Aside0.mk (below_step HB.out hb); clear HB hg hb K3 K4 K5 K7 K9 K11 K13 K15 K17 K19 K21; have K3 := n3_; clear n3_; have K4 := n4_; clear n4_; have K5 := n5_; clear n5_; have K7 := n7_; clear n7_; have K9 := n9_; clear n9_; have K11 := n11_; clear n11_; have K13 := n13_; clear n13_; have K15 := n15_; clear n15_; have K17 := n17_; clear n17_; have K19 := n19_; clear n19_; have K21 := n21_; clear n21_; have HB := nB_; have E23 := nE_; clear nB_ nE_; have e0 := bx0 hbox; have f0 := blk_frozen hbox 0; have hb2 := blk_set hbox 0 (.string ab0); have e1 := (blk_cell hb2 1).trans rfl; have f1 := blk_frozen hb2 1; have K23 := Aside0.mk hbox; clear hbox hb2))
    obtain ⟨wC13, hW⟩ : ∃ W, (wB13.setCell ⟨g23, 0, none⟩ (.string ab0)).setCell ⟨g23, 1, none⟩ (.string ab1) = W := ⟨_, rfl⟩
    rw [hW]
    clear e0 f0 e1 f1
    have n3_ := Aside0.mk (show Bx wC13 g3 _ _ by rw [← hW]; exact bx_far K3.out D3_23.out _ _)
    have n4_ := Aside0.mk (show Bx wC13 g4 _ _ by rw [← hW]; exact bx_far K4.out D4_23.out _ _)
    have n5_ := Aside0.mk (show Bx wC13 g5 _ _ by rw [← hW]; exact bx_far K5.out D5_23.out _ _)
    have n7_ := Aside0.mk (show Bx wC13 g7 _ _ by rw [← hW]; exact bx_far K7.out D7_23.out _ _)
    have n9_ := Aside0.mk (show Bx wC13 g9 _ _ by rw [← hW]; exact bx_far K9.out D9_23.out _ _)
    have n11_ := Aside0.mk (show Bx wC13 g11 _ _ by rw [← hW]; exact bx_far K11.out D11_23.out _ _)
    have n13_ := Aside0.mk (show Bx wC13 g13 _ _ by rw [← hW]; exact bx_far K13.out D13_23.out _ _)
    have n15_ := Aside0.mk (show Bx wC13 g15 _ _ by rw [← hW]; exact bx_far K15.out D15_23.out _ _)
    have n17_ := Aside0.mk (show Bx wC13 g17 _ _ by rw [← hW]; exact bx_far K17.out D17_23.out _ _)
    have n19_ := Aside0.mk (show Bx wC13 g19 _ _ by rw [← hW]; exact bx_far K19.out D19_23.out _ _)
    have n21_ := Aside0.mk (show Bx wC13 g21 _ _ by rw [← hW]; exact bx_far K21.out D21_23.out _ _)
    have nn_ := Aside0.mk (show Bx wC13 g23 ab0 ab1 by rw [← hW]; exact bx_put K23.out ab0 ab1)
    have nB_ := Aside0.mk (show Below w.heap.size w wC13 by rw [← hW]; exact below_set (below_set HB.out E23.out) E23.out)
    clear HB hW K3 K4 K5 K7 K9 K11 K13 K15 K17 K19 K21 K23
    have K3 := n3_
    have K4 := n4_
    have K5 := n5_
    have K7 := n7_
    have K9 := n9_
    have K11 := n11_
    have K13 := n13_
    have K15 := n15_
    have K17 := n17_
    have K19 := n19_
    have K21 := n21_
    have K23 := nn_
    have HB := nB_
    clear nn_ nB_ n3_ n4_ n5_ n7_ n9_ n11_ n13_ n15_ n17_ n19_ n21_
    have c40 := bx0 K4.out
    have c41 := bx1 K4.out
    have c70 := bx0 K7.out
    have c71 := bx1 K7.out
    go_upto_region 15 with (first | (go_at_call 12; refine (exact_Sub.calls k ab0 ab1 b0 b1 a0 a1 0 _ (gl_below hGl HB.out) H.h14).mono ?_; rintro e wA14 ⟨rfl, hb⟩; have n3_ := Aside0.mk (blk_below K3.out hb); have n4_ := Aside0.mk (blk_below K4.out hb); have n5_ := Aside0.mk (blk_below K5.out hb); have n7_ := Aside0.mk (blk_below K7.out hb); have n9_ := Aside0.mk (blk_below K9.out hb); have n11_ := Aside0.mk (blk_below K11.out hb); have n13_ := Aside0.mk (blk_below K13.out hb); have n15_ := Aside0.mk (blk_below K15.out hb); have n17_ := Aside0.mk (blk_below K17.out hb); have n19_ := Aside0.mk (blk_below K19.out hb); have n21_ := Aside0.mk (blk_below K21.out hb); have n23_ := Aside0.mk (blk_below K23.out hb); have nB_ := Aside0.mk (below_step HB.out hb); clear K3 K4 K5 K7 K9 K11 K13 K15 K17 K19 K21 K23 HB hb c40 c41 c70 c71; have K3 := n3_; clear n3_; have K4 := n4_; clear n4_; have K5 := n5_; clear n5_; have K7 := n7_; clear n7_; have K9 := n9_; clear n9_; have K11 := n11_; clear n11_; have K13 := n13_; clear n13_; have K15 := n15_; clear n15_; have K17 := n17_; clear n17_; have K19 := n19_; clear n19_; have K21 := n21_; clear n21_; have K23 := n23_; clear n23_; have HB := nB_; clear nB_) | ((with_reducible refine gate_dst (N := 25) rfl ?_); refine box_event ?hg (N := 25) ?hd (cs := #[.string (⟨#[]⟩ : ByteArray), .string (⟨#[]⟩ : ByteArray)]) (t := 23) ?hr ?_; (case hd => rfl); (case hg => rfl); (case hr => first | (go_simp; done) | (go_simp; rfl)); intro g25 hg wB14 hbox hb; have n3_ := Aside0.mk (blk_below K3.out hb); have D3_25 := Aside0.mk ((by rw [hg]; exact Nat.ne_of_lt (blk_lt K3.out)) : g3 ≠ g25); have n4_ := Aside0.mk (blk_below K4.out hb); have D4_25 := Aside0.mk ((by rw [hg]; exact Nat.ne_of_lt (blk_lt K4.out)) : g4 ≠ g25); have n5_ := Aside0.mk (blk_below K5.out hb); have D5_25 := Aside0.mk ((by rw [hg]; exact Nat.ne_of_lt (blk_lt K5.out)) : g5 ≠ g25); have n7_ := Aside0.mk (blk_below K7.out hb); have D7_25 := Aside0.mk ((by rw [hg]; exact Nat.ne_of_lt (blk_lt K7.out)) : g7 ≠ g25); have n9_ := Aside0.mk (blk_below K9.out hb); have D9_25 := Aside0.mk ((by rw [hg]; exact Nat.ne_of_lt (blk_lt K9.out)) : g9 ≠ g25); have n11_ := Aside0.mk (blk_below K11.out hb); have D11_25 := Aside0.mk ((by rw [hg]; exact Nat.ne_of_lt (blk_lt K11.out)) : g11 ≠ g25); have n13_ := Aside0.mk (blk_below K13.out hb); have D13_25 := Aside0.mk ((by rw [hg]; exact Nat.ne_of_lt (blk_lt K13.out)) : g13 ≠ g25); have n15_ := Aside0.mk (blk_below K15.out hb); have D15_25 := Aside0.mk ((by rw [hg]; exact Nat.ne_of_lt (blk_lt K15.out)) : g15 ≠ g25); have n17_ := Aside0.mk (blk_below K17.out hb); have D17_25 := Aside0.mk ((by rw [hg]; exact Nat.ne_of_lt (blk_lt K17.out)) : g17 ≠ g25); have n19_ := Aside0.mk (blk_below K19.out hb); have D19_25 := Aside0.mk ((by rw [hg]; exact Nat.ne_of_lt (blk_lt K19.out)) : g19 ≠ g25); have n21_ := Aside0.mk (blk_below K21.out hb); have D21_25 := Aside0.mk ((by rw [hg]; exact Nat.ne_of_lt (blk_lt K21.out)) : g21 ≠ g25); have n23_ := Aside0.mk (blk_below K23.out hb); have D23_25 := Aside0.mk ((by rw [hg]; exact Nat.ne_of_lt (blk_lt K23.out)) : g23 ≠ g25); have nE_ := Aside0.mk ((by rw [hg]; exact HB.out.size) : w.heap.size ≤ g25); have nB_ := Aside0.mk (below_step HB.out hb); clear HB hg hb K3 K4 K5 K7 K9 K11 K13 K15 K17 K19 K21 K23; have K3 := n3_; clear n3_; have K4 := n4_; clear n4_; have K5 := n5_; clear n5_; have K7 := n7_; clear n7_; have K9 := n9_; clear n9_; have K11 := n11_; clear n11_; have K13 := n13_; clear n13_; have K15 := n15_; clear n15_; have K17 := n17_; clear n17_; have K19 := n19_; clear n19_; have K21 := n21_; clear n21_; have K23 := n23_; clear n23_; have HB := nB_; have E25 := nE_; clear nB_ nE_; have e0 := bx0 hbox; have f0 := blk_frozen hbox 0; have hb2 := blk_set hbox 0 (.string a0); have e1 := (blk_cell hb2 1).trans rfl; have f1 := blk_frozen hb2 1; have K25 := Aside0.mk hbox; clear hbox hb2))
    obtain ⟨wC14, hW⟩ : ∃ W, (wB14.setCell ⟨g25, 0, none⟩ (.string a0)).setCell ⟨g25, 1, none⟩ (.string a1) = W := ⟨_, rfl⟩
    rw [hW]
    clear e0 f0 e1 f1
    have n3_ := Aside0.mk (show Bx wC14 g3 _ _ by rw [← hW]; exact bx_far K3.out D3_25.out _ _)
    have n4_ := Aside0.mk (show Bx wC14 g4 _ _ by rw [← hW]; exact bx_far K4.out D4_25.out _ _)
    have n5_ := Aside0.mk (show Bx wC14 g5 _ _ by rw [← hW]; exact bx_far K5.out D5_25.out _ _)
    have n7_ := Aside0.mk (show Bx wC14 g7 _ _ by rw [← hW]; exact bx_far K7.out D7_25.out _ _)
    have n9_ := Aside0.mk (show Bx wC14 g9 _ _ by rw [← hW]; exact bx_far K9.out D9_25.out _ _)
    have n11_ := Aside0.mk (show Bx wC14 g11 _ _ by rw [← hW]; exact bx_far K11.out D11_25.out _ _)
    have n13_ := Aside0.mk (show Bx wC14 g13 _ _ by rw [← hW]; exact bx_far K13.out D13_25.out _ _)
    have n15_ := Aside0.mk (show Bx wC14 g15 _ _ by rw [← hW]; exact bx_far K15.out D15_25.out _ _)
    have n17_ := Aside0.mk (show Bx wC14 g17 _ _ by rw [← hW]; exact bx_far K17.out D17_25.out _ _)
    have n19_ := Aside0.mk (show Bx wC14 g19 _ _ by rw [← hW]; exact bx_far K19.out D19_25.out _ _)
    have n21_ := Aside0.mk (show Bx wC14 g21 _ _ by rw [← hW]; exact bx_far K21.out D21_25.out _ _)
    have n23_ := Aside0.mk (show Bx wC14 g23 _ _ by rw [← hW]; exact bx_far K23.out D23_25.out _ _)
    have nn_ := Aside0.mk (show Bx wC14 g25 a0 a1 by rw [← hW]; exact bx_put K25.out a0 a1)
    have nB_ := Aside0.mk (show Below w.heap.size w wC14 by rw [← hW]; exact below_set (below_set HB.out E25.out) E25.out)
    clear HB hW K3 K4 K5 K7 K9 K11 K13 K15 K17 K19 K21 K23 K25
    have K3 := n3_
    have K4 := n4_
    have K5 := n5_
    have K7 := n7_
    have K9 := n9_
    have K11 := n11_
    have K13 := n13_
    have K15 := n15_
    have K17 := n17_
    have K19 := n19_
    have K21 := n21_
    have K23 := n23_
    have K25 := nn_
    have HB := nB_
    clear nn_ nB_ n3_ n4_ n5_ n7_ n9_ n11_ n13_ n15_ n17_ n19_ n21_ n23_
    have c110 := bx0 K11.out
    have c111 := bx1 K11.out
    have c130 := bx0 K13.out
    have c131 := bx1 K13.out
    have c150 := bx0 K15.out
    have c151 := bx1 K15.out
    have c210 := bx0 K21.out
    have c211 := bx1 K21.out
    have c70 := bx0 K7.out
    have c71 := bx1 K7.out
    have c230 := bx0 K23.out
    have c231 := bx1 K23.out
    have c250 := bx0 K25.out
    have c251 := bx1 K25.out
    have c30 := bx0 K3.out
    have c31 := bx1 K3.out
    have c40 := bx0 K4.out
    have c41 := bx1 K4.out
    by_cases hb0 : b0.toList = [48]
    · go_wp2
      go_ret
      exact ⟨rfl, HB.out⟩
    · have hbb : (b0.toList == [48]) = false := by simp [hb0]
      go_upto_region 19 with (fail)
      clear hbb
      clear c110 c111 c130 c131 c150 c151 c210 c211 c70 c71 c230 c231 c250 c251 c30 c31 c40 c41
      have c30 := bx0 K3.out
      have c31 := bx1 K3.out
      have c40 := bx0 K4.out
      have c41 := bx1 K4.out
      go_upto_region 20 with (first | (go_at_call 13; refine (exact_Div.calls k a0 a1 b0 b1 u0 u1 0 _ (gl_below hGl HB.out) (H.h19 hb0)).mono ?_; rintro e wA19 ⟨rfl, hb⟩; have n3_ := Aside0.mk (blk_below K3.out hb); have n4_ := Aside0.mk (blk_below K4.out hb); have n5_ := Aside0.mk (blk_below K5.out hb); have n7_ := Aside0.mk (blk_below K7.out hb); have n9_ := Aside0.mk (blk_below K9.out hb); have n11_ := Aside0.mk (blk_below K11.out hb); have n13_ := Aside0.mk (blk_below K13.out hb); have n15_ := Aside0.mk (blk_below K15.out hb); have n17_ := Aside0.mk (blk_below K17.out hb); have n19_ := Aside0.mk (blk_below K19.out hb); have n21_ := Aside0.mk (blk_below K21.out hb); have n23_ := Aside0.mk (blk_below K23.out hb); have n25_ := Aside0.mk (blk_below K25.out hb); have nB_ := Aside0.mk (below_step HB.out hb); clear K3 K4 K5 K7 K9 K11 K13 K15 K17 K19 K21 K23 K25 HB hb c30 c31 c40 c41; have K3 := n3_; clear n3_; have K4 := n4_; clear n4_; have K5 := n5_; clear n5_; have K7 := n7_; clear n7_; have K9 := n9_; clear n9_; have K11 := n11_; clear n11_; have K13 := n13_; clear n13_; have K15 := n15_; clear n15_; have K17 := n17_; clear n17_; have K19 := n19_; clear n19_; have K21 := n21_; clear n21_; have K23 := n23_; clear n23_; have K25 := n25_; clear n25_; have HB := nB_; clear nB_) | ((with_reducible refine gate_dst (N := 27) rfl ?_); refine box_event ?hg (N := 27) ?hd (cs := #[.string (⟨#[]⟩ : ByteArray), .string (⟨#[]⟩ : ByteArray)]) (t := 23) ?hr ?_; (case hd => rfl); (case hg => rfl); (case hr => first | (go_simp; done) | (go_simp; rfl)); intro g27 hg wB19 hbox hb; have n3_ := Aside0.mk (blk_below K3.out hb); have D3_27 := Aside0.mk ((by rw [hg]; exact Nat.ne_of_lt (blk_lt K3.out)) : g3 ≠ g27); have n4_ := Aside0.mk (blk_below K4.out hb); have D4_27 := Aside0.mk ((by rw [hg]; exact Nat.ne_of_lt (blk_lt K4.out)) : g4 ≠ g27); have n5_ := Aside0.mk (blk_below K5.out hb); have D5_27 := Aside0.mk ((by rw [hg]; exact Nat.ne_of_lt (blk_lt K5.out)) : g5 ≠ g27); have n7_ := Aside0.mk (blk_below K7.out hb); have D7_27 := Aside0.mk ((by rw [hg]; exact Nat.ne_of_lt (blk_lt K7.out)) : g7 ≠ g27); have n9_ := Aside0.mk (blk_below K9.out hb); have D9_27 := Aside0.mk ((by rw [hg]; exact Nat.ne_of_lt (blk_lt K9.out)) : g9 ≠ g27); have n11_ := Aside0.mk (blk_below K11.out hb); have D11_27 := Aside0.mk ((by rw [hg]; exact Nat.ne_of_lt (blk_lt K11.out)) : g11 ≠ g27); have n13_ := Aside0.mk (blk_below K13.out hb); have D13_27 := Aside0.mk ((by rw [hg]; exact Nat.ne_of_lt (blk_lt K13.out)) : g13 ≠ g27); have n15_ := Aside0.mk (blk_below K15.out hb); have D15_27 := Aside0.mk ((by rw [hg]; exact Nat.ne_of_lt (blk_lt K15.out)) : g15 ≠ g27); have n17_ := Aside0.mk (blk_below K17.out hb); have D17_27 := Aside0.mk ((by rw [hg]; exact Nat.ne_of_lt (blk_lt K17.out)) : g17 ≠ g27); have n19_ := Aside0.mk (blk_below K19.out hb); have D19_27 := Aside0.mk ((by rw [hg]; exact Nat.ne_of_lt (blk_lt K19.out)) : g19 ≠ g27); have n21_ := Aside0.mk (blk_below K21.out hb); have D21_27 := Aside0.mk ((by rw [hg]; exact Nat.ne_of_lt (blk_lt K21.out)) : g21 ≠ g27); have n23_ := Aside0.mk (blk_below K23.out hb); have D23_27 := Aside0.mk ((by rw [hg]; exact Nat.ne_of_lt (blk_lt K23.out)) : g23 ≠ g27); have n25_ := Aside0.mk (blk_below K25.out hb); have D25_27 := Aside0.mk ((by rw [hg]; exact Nat.ne_of_lt (blk_lt K25.out)) : g25 ≠ g27); have nE_ := Aside0.mk ((by rw [hg]; exact HB.out.size) : w.heap.size ≤ g27); have nB_ := Aside0.mk (below_step HB.out hb); clear HB hg hb K3 K4 K5 K7 K9 K11 K13 K15 K17 K19 K21 K23 K25; have K3 := n3_; clear n3_; have K4 := n4_; clear n4_; have K5 := n5_; clear n5_; have K7 := n7_; clear n7_; have K9 := n9_; clear n9_; have K11 := n11_; clear n11_; have K13 := n13_; clear n13_; have K15 := n15_; clear n15_; have K17 := n17_; clear n17_; have K19 := n19_; clear n19_; have K21 := n21_; clear n21_; have K23 := n23_; clear n23_; have K25 := n25_; clear n25_; have HB := nB_; have E27 := nE_; clear nB_ nE_; have e0 := bx0 hbox; have f0 := blk_frozen hbox 0; have hb2 := blk_set hbox 0 (.string u0); have e1 := (blk_cell hb2 1).trans rfl; have f1 := blk_frozen hb2 1; have K27 := Aside0.mk hbox; clear hbox hb2))
      obtain ⟨wC19, hW⟩ : ∃ W, (wB19.setCell ⟨g27, 0, none⟩ (.string u0)).setCell ⟨g27, 1, none⟩ (.string u1) = W := ⟨_, rfl⟩
      rw [hW]
      clear e0 f0 e1 f1
      have n3_ := Aside0.mk (show Bx wC19 g3 _ _ by rw [← hW]; exact bx_far K3.out D3_27.out _ _)
      have n4_ := Aside0.mk (show Bx wC19 g4 _ _ by rw [← hW]; exact bx_far K4.out D4_27.out _ _)
      have n5_ := Aside0.mk (show Bx wC19 g5 _ _ by rw [← hW]; exact bx_far K5.out D5_27.out _ _)
      have n7_ := Aside0.mk (show Bx wC19 g7 _ _ by rw [← hW]; exact bx_far K7.out D7_27.out _ _)
      have n9_ := Aside0.mk (show Bx wC19 g9 _ _ by rw [← hW]; exact bx_far K9.out D9_27.out _ _)
      have n11_ := Aside0.mk (show Bx wC19 g11 _ _ by rw [← hW]; exact bx_far K11.out D11_27.out _ _)
      have n13_ := Aside0.mk (show Bx wC19 g13 _ _ by rw [← hW]; exact bx_far K13.out D13_27.out _ _)
      have n15_ := Aside0.mk (show Bx wC19 g15 _ _ by rw [← hW]; exact bx_far K15.out D15_27.out _ _)
      have n17_ := Aside0.mk (show Bx wC19 g17 _ _ by rw [← hW]; exact bx_far K17.out D17_27.out _ _)
      have n19_ := Aside0.mk (show Bx wC19 g19 _ _ by rw [← hW]; exact bx_far K19.out D19_27.out _ _)
      have n21_ := Aside0.mk (show Bx wC19 g21 _ _ by rw [← hW]; exact bx_far K21.out D21_27.out _ _)
      have n23_ := Aside0.mk (show Bx wC19 g23 _ _ by rw [← hW]; exact bx_far K23.out D23_27.out _ _)
      have n25_ := Aside0.mk (show Bx wC19 g25 _ _ by rw [← hW]; exact bx_far K25.out D25_27.out _ _)
      have nn_ := Aside0.mk (show Bx wC19 g27 u0 u1 by rw [← hW]; exact bx_put K27.out u0 u1)
      have nB_ := Aside0.mk (show Below w.heap.size w wC19 by rw [← hW]; exact below_set (below_set HB.out E27.out) E27.out)
      clear HB hW K3 K4 K5 K7 K9 K11 K13 K15 K17 K19 K21 K23 K25 K27
      have K3 := n3_
      have K4 := n4_
      have K5 := n5_
      have K7 := n7_
      have K9 := n9_
      have K11 := n11_
      have K13 := n13_
      have K15 := n15_
      have K17 := n17_
      have K19 := n19_
      have K21 := n21_
      have K23 := n23_
      have K25 := n25_
      have K27 := nn_
      have HB := nB_
      clear nn_ nB_ n3_ n4_ n5_ n7_ n9_ n11_ n13_ n15_ n17_ n19_ n21_ n23_ n25_
      have c40 := bx0 K4.out
      have c41 := bx1 K4.out
      have c270 := bx0 K27.out
      have c271 := bx1 K27.out
      go_upto_region 21 with (first | (go_at_call 11; refine (exact_Mul.calls k u0 u1 b0 b1 a0 a1 0 _ (gl_below hGl HB.out) (H.h20 hb0)).mono ?_; rintro e wA20 ⟨rfl, hb⟩; have n3_ := Aside0.mk (blk_below K3.out hb); have n4_ := Aside0.mk (blk_below K4.out hb); have n5_ := Aside0.mk (blk_below K5.out hb); have n7_ := Aside0.mk (blk_below K7.out hb); have n9_ := Aside0.mk (blk_below K9.out hb); have n11_ := Aside0.mk (blk_below K11.out hb); have n13_ := Aside0.mk (blk_below K13.out hb); have n15_ := Aside0.mk (blk_below K15.out hb); have n17_ := Aside0.mk (blk_below K17.out hb); have n19_ := Aside0.mk (blk_below K19.out hb); have n21_ := Aside0.mk (blk_below K21.out hb); have n23_ := Aside0.mk (blk_below K23.out hb); have n25_ := Aside0.mk (blk_below K25.out hb); have n27_ := Aside0.mk (blk_below K27.out hb); have nB_ := Aside0.mk (below_step HB.out hb); clear K3 K4 K5 K7 K9 K11 K13 K15 K17 K19 K21 K23 K25 K27 HB hb c40 c41 c270 c271; have K3 := n3_; clear n3_; have K4 := n4_; clear n4_; have K5 := n5_; clear n5_; have K7 := n7_; clear n7_; have K9 := n9_; clear n9_; have K11 := n11_; clear n11_; have K13 := n13_; clear n13_; have K15 := n15_; clear n15_; have K17 := n17_; clear n17_; have K19 := n19_; clear n19_; have K21 := n21_; clear n21_; have K23 := n23_; clear n23_; have K25 := n25_; clear n25_; have K27 := n27_; clear n27_; have HB := nB_; clear nB_) | ((with_reducible refine gate_dst (N := 29) rfl ?_); refine box_event ?hg (N := 29) ?hd (cs := #[.string (⟨#[]⟩ : ByteArray), .string (⟨#[]⟩ : ByteArray)]) (t := 23) ?hr ?_; (case hd => rfl); (case hg => rfl); (case hr => first | (go_simp; done) | (go_simp; rfl)); intro g29 hg wB20 hbox hb; have n3_ := Aside0.mk (blk_below K3.out hb); have D3_29 := Aside0.mk ((by rw [hg]; exact Nat.ne_of_lt (blk_lt K3.out)) : g3 ≠ g29); have n4_ := Aside0.mk (blk_below K4.out hb); have D4_29 := Aside0.mk ((by rw [hg]; exact Nat.ne_of_lt (blk_lt K4.out)) : g4 ≠ g29); have n5_ := Aside0.mk (blk_below K5.out hb); have D5_29 := Aside0.mk ((by rw [hg]; exact Nat.ne_of_lt (blk_lt K5.out)) : g5 ≠ g29); have n7_ := Aside0.mk (blk_below K7.out hb); have D7_29 := Aside0.mk ((by rw [hg]; exact Nat.ne_of_lt (blk_lt K7.out)) : g7 ≠ g29); have n9_ := Aside0.mk (blk_below K9.out hb); have D9_29 := Aside0.mk ((by rw [hg]; exact Nat.ne_of_lt (blk_lt K9.out)) : g9 ≠ g29); have n11_ := Aside0.mk (blk_below K11.out hb); have D11_29 := Aside0.mk ((by rw [hg]; exact Nat.ne_of_lt (blk_lt K11.out)) : g11 ≠ g29); have n13_ := Aside0.mk (blk_below K13.out hb); have D13_29 := Aside0.mk ((by rw [hg]; exact Nat.ne_of_lt (blk_lt K13.out)) : g13 ≠ g29); have n15_ := Aside0.mk (blk_below K15.out hb); have D15_29 := Aside0.mk ((by rw [hg]; exact Nat.ne_of_lt (blk_lt K15.out)) : g15 ≠ g29); have n17_ := Aside0.mk (blk_below K17.out hb); have D17_29 := Aside0.mk ((by rw [hg]; exact Nat.ne_of_lt (blk_lt K17.out)) : g17 ≠ g29); have n19_ := Aside0.mk (blk_below K19.out hb); have D19_29 := Aside0.mk ((by rw [hg]; exact Nat.ne_of_lt (blk_lt K19.out)) : g19 ≠ g29); have n21_ := Aside0.mk (blk_below K21.out hb); have D21_29 := Aside0.mk ((by rw [hg]; exact Nat.ne_of_lt (blk_lt K21.out)) : g21 ≠ g29); have n23_ := Aside0.mk (blk_below K23.out hb); have D23_29 := Aside0.mk ((by rw [hg]; exact Nat.ne_of_lt (blk_lt K23.out)) : g23 ≠ g29); have n25_ := Aside0.mk (blk_below K25.out hb); have D25_29 := Aside0.mk ((by rw [hg]; exact Nat.ne_of_lt (blk_lt K25.out)) : g25 ≠ g29); have n27_ := Aside0.mk (blk_below K27.out hb); have D27_29 := Aside0.mk ((by rw [hg]; exact Nat.ne_of_lt (blk_lt K27.out)) : g27 ≠ g29); have nE_ := Aside0.mk ((by rw [hg]; exact HB.out.size) : w.heap.size ≤ g29); have nB_ := Aside0.mk (below_step HB.out hb); clear HB hg hb K3 K4 K5 K7 K9 K11 K13 K15 K17 K19 K21 K23 K25 K27; have K3 := n3_; clear n3_; have K4 := n4_; clear n4_; have K5 := n5_; clear n5_; have K7 := n7_; clear n7_; have K9 := n9_; clear n9_; have K11 := n11_; clear n11_; have K13 := n13_; clear n13_; have K15 := n15_; clear n15_; have K17 := n17_; clear n17_; have K19 := n19_; clear n19_; have K21 := n21_; clear n21_; have K23 := n23_; clear n23_; have K25 := n25_; clear n25_; have K27 := n27_; clear n27_; have HB := nB_; have E29 := nE_; clear nB_ nE_; have e0 := bx0 hbox; have f0 := blk_frozen hbox 0; have hb2 := blk_set hbox 0 (.string a0); have e1 := (blk_cell hb2 1).trans rfl; have f1 := blk_frozen hb2 1; have K29 := Aside0.mk hbox; clear hbox hb2))
      obtain ⟨wC20, hW⟩ : ∃ W, (wB20.setCell ⟨g29, 0, none⟩ (.string a0)).setCell ⟨g29, 1, none⟩ (.string a1) = W := ⟨_, rfl⟩
      rw [hW]
      clear e0 f0 e1 f1
      have n3_ := Aside0.mk (show Bx wC20 g3 _ _ by rw [← hW]; exact bx_far K3.out D3_29.out _ _)
      have n4_ := Aside0.mk (show Bx wC20 g4 _ _ by rw [← hW]; exact bx_far K4.out D4_29.out _ _)
      have n5_ := Aside0.mk (show Bx wC20 g5 _ _ by rw [← hW]; exact bx_far K5.out D5_29.out _ _)
      have n7_ := Aside0.mk (show Bx wC20 g7 _ _ by rw [← hW]; exact bx_far K7.out D7_29.out _ _)
      have n9_ := Aside0.mk (show Bx wC20 g9 _ _ by rw [← hW]; exact bx_far K9.out D9_29.out _ _)
      have n11_ := Aside0.mk (show Bx wC20 g11 _ _ by rw [← hW]; exact bx_far K11.out D11_29.out _ _)
      have n13_ := Aside0.mk (show Bx wC20 g13 _ _ by rw [← hW]; exact bx_far K13.out D13_29.out _ _)
      have n15_ := Aside0.mk (show Bx wC20 g15 _ _ by rw [← hW]; exact bx_far K15.out D15_29.out _ _)
      have n17_ := Aside0.mk (show Bx wC20 g17 _ _ by rw [← hW]; exact bx_far K17.out D17_29.out _ _)
      have n19_ := Aside0.mk (show Bx wC20 g19 _ _ by rw [← hW]; exact bx_far K19.out D19_29.out _ _)
      have n21_ := Aside0.mk (show Bx wC20 g21 _ _ by rw [← hW]; exact bx_far K21.out D21_29.out _ _)
      have n23_ := Aside0.mk (show Bx wC20 g23 _ _ by rw [← hW]; exact bx_far K23.out D23_29.out _ _)
      have n25_ := Aside0.mk (show Bx wC20 g25 _ _ by rw [← hW]; exact bx_far K25.out D25_29.out _ _)
      have n27_ := Aside0.mk (show Bx wC20 g27 _ _ by rw [← hW]; exact bx_far K27.out D27_29.out _ _)
      have nn_ := Aside0.mk (show Bx wC20 g29 a0 a1 by rw [← hW]; exact bx_put K29.out a0 a1)
      have nB_ := Aside0.mk (show Below w.heap.size w wC20 by rw [← hW]; exact below_set (below_set HB.out E29.out) E29.out)
      clear HB hW K3 K4 K5 K7 K9 K11 K13 K15 K17 K19 K21 K23 K25 K27 K29
      have K3 := n3_
      have K4 := n4_
      have K5 := n5_
      have K7 := n7_
      have K9 := n9_
      have K11 := n11_
      have K13 := n13_
      have K15 := n15_
      have K17 := n17_
      have K19 := n19_
      have K21 := n21_
      have K23 := n23_
      have K25 := n25_
      have K27 := n27_
      have K29 := nn_
      have HB := nB_
      clear nn_ nB_ n3_ n4_ n5_ n7_ n9_ n11_ n13_ n15_ n17_ n19_ n21_ n23_ n25_ n27_
      have c290 := bx0 K29.out
      have c291 := bx1 K29.out
      have c30 := bx0 K3.out
      have c31 := bx1 K3.out
      go_wp2
      go_ret
      exact ⟨rfl, HB.out⟩
end Go.Proofs.YtefhcgnamfnkbaaGreatDoor.Pr

