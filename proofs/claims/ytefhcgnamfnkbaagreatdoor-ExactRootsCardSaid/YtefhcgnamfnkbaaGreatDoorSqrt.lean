/- exact.Root where the fraction is good and the places are permitted, walked by hand. -/
import Derived.Test.YtefhcgnamfnkbaaGreatDoorRoot
import Derived.Test.YtefhcgnamfnkbaaGreatDoorRounded
import Derived.Deep.RegionHeld3
namespace Go.Proofs.YtefhcgnamfnkbaaGreatDoor.Pr
open Go.RowKit Go.Proofs.YtefhcgnamfnkbaaGreatDoorW.PrintWords Go.Proofs.YtefhcgnamfnkbaaGreatDoorW.PrintLast Go.Proofs.YtefhcgnamfnkbaaGreatDoorW.PrintMore

/-- exact.Root; nothing is told where there is an error. -/
def exact_Root.f (k : Nat) (a0 a1 : ByteArray) (p : Nat) : Option (ByteArray × ByteArray × Int) := if 0 ≤ p ∧ p ≤ 100 then (exact_read.f k a0 a1).bind fun t => if t.2.2.2 = 0 then if t.1 = false then (exact_ten.f k (2 * (p : Int))).bind fun s => (exact_nat_times.f k t.2.1 s).bind fun u => (exact_divide.f k u t.2.2.1).bind fun v => (exact_nat_root.f k v.1).bind fun x => (exact_ten.f k (p : Int)).bind fun y => exact_number_write.f k false x y else none else none else none
set_option maxHeartbeats 4000000 in
set_option maxRecDepth 100000 in
theorem exact_Root.calls (k : Nat) (a0 a1 : ByteArray) (p : Nat) (r0 r1 : ByteArray) (r2 : Int) (w : World) (hGl : Gl w) (h : exact_Root.f k a0 a1 p = some (r0, r1, r2)) :
    Calls Tryz.prog 20 #[.agg #[.string a0, .string a1], .int .i64 (p : Int)] w fun e w' => e = .returned (.tuple #[.agg #[.string r0, .string r1], .int .i64 r2]) ∧ Below w.heap.size w w' := by
  have hu23 := Tryz.underlying23
  have hu80 := Tryz.underlying80
  have hu78 := Tryz.underlying78
  have HB := Aside0.mk (Below.refl w.heap.size w)
  unfold exact_Root.f at h
  split at h
  case isFalse => cases h
  rename_i hp
  obtain ⟨hp0, hp1⟩ := hp
  obtain ⟨⟨m, N, D, e⟩, h0, h⟩ := Option.bind_eq_some_iff.1 h
  have H0 := Aside0.mk h0
  clear h0
  dsimp only at h
  by_cases he : e = 0
  case neg => rw [if_neg he] at h; cases h
  subst he
  rw [if_pos rfl] at h
  have K := Aside0.mk (show ((w.alloc (.cells #[.string a0, .string a1] 23)).alloc (.cells #[.string (⟨#[]⟩ : ByteArray), .string (⟨#[]⟩ : ByteArray)] 23)).heap[w.heap.size + 1]? = some (.cells #[.string (⟨#[]⟩ : ByteArray), .string (⟨#[]⟩ : ByteArray)] 23 (0, 0)) from by
    have := blk_new (w.alloc (.cells #[.string a0, .string a1] 23)) (.cells #[.string (⟨#[]⟩ : ByteArray), .string (⟨#[]⟩ : ByteArray)] 23)
    rw [World.size_alloc] at this
    exact this)
  cases m with
  | true => rw [if_neg (by decide)] at h; cases h
  | false =>
  rw [if_pos rfl] at h
  obtain ⟨s, h1, h⟩ := Option.bind_eq_some_iff.1 h
  obtain ⟨u, h2, h⟩ := Option.bind_eq_some_iff.1 h
  obtain ⟨⟨v, v2⟩, h3, h⟩ := Option.bind_eq_some_iff.1 h
  dsimp only at h
  obtain ⟨x, h4, h⟩ := Option.bind_eq_some_iff.1 h
  obtain ⟨y, h5, h⟩ := Option.bind_eq_some_iff.1 h
  have H1 := Aside0.mk h1; have H2 := Aside0.mk h2; have H3 := Aside0.mk h3; have H4 := Aside0.mk h4; have H5 := Aside0.mk h5; have H6 := Aside0.mk h
  clear h1 h2 h3 h4 h5 h
  have y1 : decide ((p : Int) < 0) = false := decide_eq_false (by omega)
  have y2 : decide (100 < p) = false := decide_eq_false (by omega)
  have y3 : ((100 : Int) < (p : Int)) = False := eq_false (by omega)
  have y4 : (100 < p) = False := eq_false (by omega)
  go_enter Tryz.func20, Tryz.ntmps20
  go_upto_region 8 with (first
    | (go_at_call 46; (with_reducible refine (read_cs k a0 a1 false N D 0 _ (gl_below hGl (bl HB.out)) H0.out).mono ?_); rintro _ w1 ⟨A1, c1, A2, c2, rfl, s1, s2, hb⟩; have S1n := Aside0.mk (s1); have S2n := Aside0.mk (s2); have HBx := Aside0.mk (below_step (bl HB.out) hb); have Kx := Aside0.mk (blk_below (blk_below K.out climb) hb); clear HB K hb s1 s2; have HB := HBx; have K := Kx; have S1 := S1n; have S2 := S2n; clear HBx Kx S1n S2n))
  have KN := Aside0.mk (blk_new w1 (.cells #[.bool false, .slice A1 N.length c1, .slice A2 D.length c2] 80))
  have n_ := Aside0.mk (show Below w.heap.size w (w1.alloc (.cells #[.bool false, .slice A1 N.length c1, .slice A2 D.length c2] 80)) from bl HB.out)
  have k_ := Aside0.mk (blk_below K.out (climb (W' := w1.alloc (.cells #[.bool false, .slice A1 N.length c1, .slice A2 D.length c2] 80))))
  have s1_ := Aside0.mk (S1.out.up (climb (W' := w1.alloc (.cells #[.bool false, .slice A1 N.length c1, .slice A2 D.length c2] 80))))
  have s2_ := Aside0.mk (S2.out.up (climb (W' := w1.alloc (.cells #[.bool false, .slice A1 N.length c1, .slice A2 D.length c2] 80))))
  clear HB K S1 S2
  obtain ⟨W, hW⟩ : ∃ W, w1.alloc (.cells #[.bool false, .slice A1 N.length c1, .slice A2 D.length c2] 80) = W := ⟨_, rfl⟩
  rw [hW] at KN n_ k_ s1_ s2_ ⊢
  clear hW
  have HB := n_
  have K := k_
  have S1 := s1_
  have S2 := s2_
  clear n_ k_ s1_ s2_
  have hw2 : IntKind.i64.wrap (2 * (p : Int)) = 2 * (p : Int) := IntWalk.i64_in _ (by omega)
  go_region_held3 (fun w' => w'.cell? ⟨w1.heap.size, 1, none⟩ = some (.slice A1 N.length c1) ∧ w'.cell? ⟨w1.heap.size, 2, none⟩ = some (.slice A2 D.length c2)) (exact ⟨(blk_cell (blk_below KN.out climb) 1).trans rfl, (blk_cell (blk_below KN.out climb) 2).trans rfl⟩)
    (first
    | (go_at_call 54; (with_reducible refine (ten_cs k (2 * (p : Int)) s _ (gl_below hGl (bl HB.out)) H1.out).mono ?_); rintro _ w2 ⟨A3, c3, rfl, s3, hb⟩; have S3n := Aside0.mk (s3); have HBx := Aside0.mk (below_step (bl HB.out) hb); have Kx := Aside0.mk (blk_below (blk_below K.out climb) hb); have KNx := Aside0.mk (blk_below (blk_below KN.out climb) hb); have S1x := Aside0.mk ((S1.out.up climb).up hb); have S2x := Aside0.mk ((S2.out.up climb).up hb); clear HB K KN S1 S2 hb s3; have HB := HBx; have K := Kx; have KN := KNx; have S1 := S1x; have S2 := S2x; have S3 := S3n; clear HBx Kx KNx S1x S2x S3n)
    | (go_at_call 41; (with_reducible refine (times_cs k N s u _ (gl_below hGl (bl HB.out)) H2.out (S1.out.up climb) (S3.out.up climb)).mono ?_); rintro _ w3 ⟨A4, c4, rfl, s4, hb⟩; have S4n := Aside0.mk (s4); have HBx := Aside0.mk (below_step (bl HB.out) hb); have Kx := Aside0.mk (blk_below (blk_below K.out climb) hb); have KNx := Aside0.mk (blk_below (blk_below KN.out climb) hb); have S1x := Aside0.mk ((S1.out.up climb).up hb); have S2x := Aside0.mk ((S2.out.up climb).up hb); clear HB K KN S1 S2 hb s4 S3; have HB := HBx; have K := Kx; have KN := KNx; have S1 := S1x; have S2 := S2x; have S4 := S4n; clear HBx Kx KNx S1x S2x S4n)
    | (go_at_call 47; (with_reducible refine (divide_cs k u D v v2 _ (gl_below hGl (bl HB.out)) H3.out (S4.out.up climb) (S2.out.up climb)).mono ?_); rintro _ w4 ⟨A5, c5, A6, c6, rfl, s5, s6, hb⟩; have S5n := Aside0.mk (s5); have HBx := Aside0.mk (below_step (bl HB.out) hb); have Kx := Aside0.mk (blk_below (blk_below K.out climb) hb); have KNx := Aside0.mk (blk_below (blk_below KN.out climb) hb); have S1x := Aside0.mk ((S1.out.up climb).up hb); have S2x := Aside0.mk ((S2.out.up climb).up hb); clear HB K KN S1 S2 hb s5 s6 S4; have HB := HBx; have K := Kx; have KN := KNx; have S1 := S1x; have S2 := S2x; have S5 := S5n; clear HBx Kx KNx S1x S2x S5n))
  clear hw2
  go_wp2_with (first
    | (go_at_call 55; (with_reducible refine (root_cs k v x _ (gl_below hGl (bl HB.out)) H4.out (S5.out.up climb)).mono ?_); rintro _ w5 ⟨A7, c7, rfl, s7, hb⟩; have S7n := Aside0.mk (s7); have HBx := Aside0.mk (below_step (bl HB.out) hb); have Kx := Aside0.mk (blk_below (blk_below K.out climb) hb); clear HB K hb s7 S5; have HB := HBx; have K := Kx; have S7 := S7n; clear HBx Kx S7n)
    | (go_at_call 54; (with_reducible refine (ten_cs k (p : Int) y _ (gl_below hGl (bl HB.out)) H5.out).mono ?_); rintro _ w6 ⟨A8, c8, rfl, s8, hb⟩; have S8n := Aside0.mk (s8); have HBx := Aside0.mk (below_step (bl HB.out) hb); have Kx := Aside0.mk (blk_below (blk_below K.out climb) hb); have S7x := Aside0.mk ((S7.out.up climb).up hb); clear HB K S7 hb s8; have HB := HBx; have K := Kx; have S7 := S7x; have S8 := S8n; clear HBx Kx S7x S8n)
    | (go_at_call 49; (with_reducible refine (write_cs k false x y r0 r1 r2 _ (gl_below hGl (bl HB.out)) H6.out (S7.out.up climb) (S8.out.up climb)).mono ?_); rintro _ w7 ⟨rfl, hb⟩; have HBx := Aside0.mk (below_step (bl HB.out) hb); have Kx := Aside0.mk (blk_below (blk_below K.out climb) hb); clear HB K hb ; have HB := HBx; have K := Kx; clear HBx Kx; have d0_ := (blk_cell K.out 0).trans rfl; have d1_ := (blk_cell (blk_set K.out 0 (.string r0)) 1).trans rfl; have f0_ := blk_frozen K.out 0; have f1_ := blk_frozen (blk_set K.out 0 (.string r0)) 1))
  refine bodyPost_ret (results_ct rfl _ _ (w.heap.size + 1) 23 _ (0, 0) _ rfl (blk_set (blk_set K.out 0 (.string r0)) 1 (.string r1)) Tryz.underlying23 rfl (by kernel_rfl)) rfl ?_
  exact ⟨rfl, below_set (below_set HB.out (Nat.le_succ _)) (Nat.le_succ _)⟩
end Go.Proofs.YtefhcgnamfnkbaaGreatDoor.Pr
