/- exact.Round where the fraction is good and the places are permitted, walked by hand. -/
import Derived.Test.YtefhcgnamfnkbaaGreatDoorRounded
namespace Go.Proofs.YtefhcgnamfnkbaaGreatDoor.Pr
open Go.RowKit Go.Proofs.YtefhcgnamfnkbaaGreatDoorW.PrintWords Go.Proofs.YtefhcgnamfnkbaaGreatDoorW.PrintLast Go.Proofs.YtefhcgnamfnkbaaGreatDoorW.PrintMore

/-- exact.Round; nothing is told where there is an error. -/
def exact_Round.f (k : Nat) (a0 a1 : ByteArray) (p : Int) : Option (ByteArray × ByteArray × Int) := if -100 ≤ p ∧ p ≤ 100 then (exact_read.f k a0 a1).bind fun t => if t.2.2.2 = 0 then (exact_number_scaled.f k t.1 t.2.1 t.2.2.1 p).bind fun s => (exact_number_rounded.f k s.1 s.2.1 s.2.2).bind fun u => (exact_number_scaled.f k u.1 u.2.1 u.2.2 (-p)).bind fun v => exact_number_write.f k v.1 v.2.1 v.2.2 else none else none
set_option maxHeartbeats 4000000 in
set_option maxRecDepth 100000 in
theorem exact_Round.calls (k : Nat) (a0 a1 : ByteArray) (p : Int) (r0 r1 : ByteArray) (r2 : Int) (w : World) (hGl : Gl w) (h : exact_Round.f k a0 a1 p = some (r0, r1, r2)) :
    Calls Tryz.prog 19 #[.agg #[.string a0, .string a1], .int .i64 p] w fun e w' => e = .returned (.tuple #[.agg #[.string r0, .string r1], .int .i64 r2]) ∧ Below w.heap.size w w' := by
  have hu23 := Tryz.underlying23
  have hu80 := Tryz.underlying80
  have hu78 := Tryz.underlying78
  have HB := Aside0.mk (Below.refl w.heap.size w)
  unfold exact_Round.f at h
  split at h
  case isFalse => cases h
  rename_i hp
  obtain ⟨hp0, hp1⟩ := hp
  obtain ⟨⟨m, N, D, e⟩, h0, h⟩ := Option.bind_eq_some_iff.1 h
  have H0 := Aside0.mk h0
  clear h0
  dsimp only at h
  by_cases he : e = 0
  case neg => rw [if_neg he] at h; cases h
  subst he
  rw [if_pos rfl] at h
  have K := Aside0.mk (show ((w.alloc (.cells #[.string a0, .string a1] 23)).alloc (.cells #[.string (⟨#[]⟩ : ByteArray), .string (⟨#[]⟩ : ByteArray)] 23)).heap[w.heap.size + 1]? = some (.cells #[.string (⟨#[]⟩ : ByteArray), .string (⟨#[]⟩ : ByteArray)] 23 (0, 0)) from by
    have := blk_new (w.alloc (.cells #[.string a0, .string a1] 23)) (.cells #[.string (⟨#[]⟩ : ByteArray), .string (⟨#[]⟩ : ByteArray)] 23)
    rw [World.size_alloc] at this
    exact this)
  obtain ⟨⟨m1, N1, D1⟩, h1, h⟩ := Option.bind_eq_some_iff.1 h
  dsimp only at h
  obtain ⟨⟨m2, N2, D2⟩, h2, h⟩ := Option.bind_eq_some_iff.1 h
  dsimp only at h
  obtain ⟨⟨m3, N3, D3⟩, h3, h⟩ := Option.bind_eq_some_iff.1 h
  dsimp only at h
  have H1 := Aside0.mk h1; have H2 := Aside0.mk h2; have H3 := Aside0.mk h3; have H4 := Aside0.mk h
  clear h1 h2 h3 h
  have x1 : decide (p < -100) = false := decide_eq_false (by omega)
  have x2 : decide (100 < p) = false := decide_eq_false (by omega)
  have x3 : (p < -100) = False := eq_false (by omega)
  have x4 : (100 < p) = False := eq_false (by omega)
  go_enter Tryz.func19, Tryz.ntmps19
  go_wp2_with (first
    | (go_at_call 46; (with_reducible refine (read_cs k a0 a1 m N D 0 _ (gl_below hGl (bl HB.out)) H0.out).mono ?_); rintro _ w1 ⟨A1, c1, A2, c2, rfl, s1, s2, hb⟩; have S1n := Aside0.mk (s1); have S2n := Aside0.mk (s2); have HBx := Aside0.mk (below_step (bl HB.out) hb); have Kx := Aside0.mk (blk_below (blk_below K.out climb) hb); clear HB K hb s1 s2; have HB := HBx; have K := Kx; have S1 := S1n; have S2 := S2n; clear HBx Kx S1n S2n)
    | (go_at_call 52; (with_reducible refine (scaled_cs k m N D p m1 N1 D1 _ (gl_below hGl (bl HB.out)) (by omega) (by omega) H1.out (S1.out.up climb) (S2.out.up climb)).mono ?_); rintro _ w2 ⟨A3, c3, A4, c4, rfl, s3, s4, hb⟩; have S3n := Aside0.mk (s3); have S4n := Aside0.mk (s4); have HBx := Aside0.mk (below_step (bl HB.out) hb); have Kx := Aside0.mk (blk_below (blk_below K.out climb) hb); clear HB K hb s3 s4 S1 S2; have HB := HBx; have K := Kx; have S3 := S3n; have S4 := S4n; clear HBx Kx S3n S4n)
    | (go_at_call 53; (with_reducible refine (rounded_cs k m1 N1 D1 m2 N2 D2 _ (gl_below hGl (bl HB.out)) H2.out (S3.out.up climb) (S4.out.up climb)).mono ?_); rintro _ w3 ⟨A5, c5, A6, c6, rfl, s5, s6, hb⟩; have S5n := Aside0.mk (s5); have S6n := Aside0.mk (s6); have HBx := Aside0.mk (below_step (bl HB.out) hb); have Kx := Aside0.mk (blk_below (blk_below K.out climb) hb); clear HB K hb s5 s6 S3 S4; have HB := HBx; have K := Kx; have S5 := S5n; have S6 := S6n; clear HBx Kx S5n S6n)
    | (go_at_call 52; (with_reducible refine (scaled_cs k m2 N2 D2 (-p) m3 N3 D3 _ (gl_below hGl (bl HB.out)) (by omega) (by omega) H3.out (S5.out.up climb) (S6.out.up climb)).mono ?_); rintro _ w4 ⟨A7, c7, A8, c8, rfl, s7, s8, hb⟩; have S7n := Aside0.mk (s7); have S8n := Aside0.mk (s8); have HBx := Aside0.mk (below_step (bl HB.out) hb); have Kx := Aside0.mk (blk_below (blk_below K.out climb) hb); clear HB K hb s7 s8 S5 S6; have HB := HBx; have K := Kx; have S7 := S7n; have S8 := S8n; clear HBx Kx S7n S8n)
    | (go_at_call 49; (with_reducible refine (write_cs k m3 N3 D3 r0 r1 r2 _ (gl_below hGl (bl HB.out)) H4.out (S7.out.up climb) (S8.out.up climb)).mono ?_); rintro _ w5 ⟨rfl, hb⟩; have HBx := Aside0.mk (below_step (bl HB.out) hb); have Kx := Aside0.mk (blk_below (blk_below K.out climb) hb); clear HB K hb ; have HB := HBx; have K := Kx; clear HBx Kx; have d0_ := (blk_cell K.out 0).trans rfl; have d1_ := (blk_cell (blk_set K.out 0 (.string r0)) 1).trans rfl; have f0_ := blk_frozen K.out 0; have f1_ := blk_frozen (blk_set K.out 0 (.string r0)) 1))
  refine bodyPost_ret (results_ct rfl _ _ (w.heap.size + 1) 23 _ (0, 0) _ rfl (blk_set (blk_set K.out 0 (.string r0)) 1 (.string r1)) Tryz.underlying23 rfl (by kernel_rfl)) rfl ?_
  exact ⟨rfl, below_set (below_set HB.out (Nat.le_succ _)) (Nat.le_succ _)⟩
end Go.Proofs.YtefhcgnamfnkbaaGreatDoor.Pr
