/- exact.Fixed where the fraction is good and the places are permitted, walked by hand. -/
import Derived.Test.YtckfdhnimmaeiaaGreatDoorSrd
import Derived.Test.YtckfdhnimmaeiaaGreatDoorDec
namespace Go.Proofs.YtckfdhnimmaeiaaGreatDoor.Pr
open Go.RowKit Go.Proofs.YtckfdhnimmaeiaaGreatDoorW.PrintWords Go.Proofs.YtckfdhnimmaeiaaGreatDoorW.PrintLast Go.Proofs.YtckfdhnimmaeiaaGreatDoorW.PrintMore
/-- exact.Fixed; nothing is told where there is an error. -/
def exact_Fixed.f (k : Nat) (a0 a1 : ByteArray) (p : Nat) : Option (ByteArray × Int) := if 0 ≤ p ∧ p ≤ 100 then (exact_read.f k a0 a1).bind fun t => if t.2.2.2 = 0 then (exact_number_scaled.f k t.1 t.2.1 t.2.2.1 (p : Int)).bind fun s => (exact_number_rounded.f k s.1 s.2.1 s.2.2).bind fun u => (exact_number_scaled.f k u.1 u.2.1 u.2.2 (-(p : Int))).bind fun v => (exact_number_write.f k v.1 v.2.1 v.2.2).bind fun x => if x.2.2 = 0 then (exact_number_decimal.f k u.1 u.2.1 u.2.2 p).bind fun r => some (r, 0) else some (⟨#[]⟩, x.2.2) else none else none
set_option maxHeartbeats 4000000 in
set_option maxRecDepth 100000 in
theorem exact_Fixed.calls (k : Nat) (a0 a1 : ByteArray) (p : Nat) (r0 : ByteArray) (r2 : Int) (w : World) (hGl : Gl w) (h : exact_Fixed.f k a0 a1 p = some (r0, r2)) :
    Calls Tryz.prog 82 #[.agg #[.string a0, .string a1], .int .i64 (p : Int)] w fun e w' => e = .returned (.tuple #[.string r0, .int .i64 r2]) ∧ Below w.heap.size w w' := by
  have hu23 := Tryz.underlying30
  have hu80 := Tryz.underlying64
  have hu78 := Tryz.underlying62
  have HB := Aside0.mk (Below.refl w.heap.size w)
  unfold exact_Fixed.f at h
  split at h
  case isFalse => cases h
  rename_i hp
  obtain ⟨hp0, hp1⟩ := hp
  obtain ⟨⟨m, N, D, e⟩, h0, h⟩ := Option.bind_eq_some_iff.1 h
  have H0 := Aside0.mk h0
  clear h0
  dsimp only at h
  by_cases he : e = 0
  case neg => rw [if_neg he] at h; cases h
  subst he
  rw [if_pos rfl] at h
  obtain ⟨⟨m1, N1, D1⟩, h1, h⟩ := Option.bind_eq_some_iff.1 h
  dsimp only at h
  obtain ⟨⟨m2, N2, D2⟩, h2, h⟩ := Option.bind_eq_some_iff.1 h
  dsimp only at h
  obtain ⟨⟨m3, N3, D3⟩, h3, h⟩ := Option.bind_eq_some_iff.1 h
  dsimp only at h
  obtain ⟨⟨x0, x1, x2⟩, h4, h⟩ := Option.bind_eq_some_iff.1 h
  dsimp only at h
  by_cases hx : x2 = 0
  case neg =>
    rw [if_neg hx] at h
    simp only [Option.some.injEq, Prod.mk.injEq] at h
    obtain ⟨rfl, rfl⟩ := h
    have H1 := Aside0.mk h1; have H2 := Aside0.mk h2; have H3 := Aside0.mk h3; have H4 := Aside0.mk h4
    clear h1 h2 h3 h4
    have y1 : decide ((p : Int) < 0) = false := decide_eq_false (by omega)
    have y2 : decide (100 < p) = false := decide_eq_false (by omega)
    have y3 : ((100 : Int) < (p : Int)) = False := eq_false (by omega)
    have y4 : (100 < p) = False := eq_false (by omega)
    have y5 : (x2 != 0) = true := bne_iff_ne.2 hx
    have y6 : (x2 == 0) = false := beq_eq_false_iff_ne.2 hx
    clear hx
    go_enter Tryz.func82, Tryz.ntmps82
    go_wp2_with (first
      | (go_at_call 31; (with_reducible refine (read_cs k a0 a1 m N D 0 _ (gl_below hGl (bl HB.out)) H0.out).mono ?_); rintro _ w1 ⟨A1, c1, A2, c2, rfl, s1, s2, hb⟩; have S1n := Aside0.mk (s1); have S2n := Aside0.mk (s2); have HBx := Aside0.mk (below_step (bl HB.out) hb); clear HB hb s1 s2; have HB := HBx; have S1 := S1n; have S2 := S2n; clear HBx S1n S2n)
      | (go_at_call 110; (with_reducible refine (scaled_cs k m N D (p : Int) m1 N1 D1 _ (gl_below hGl (bl HB.out)) (by omega) (by omega) H1.out (S1.out.up climb) (S2.out.up climb)).mono ?_); rintro _ w2 ⟨A3, c3, A4, c4, rfl, s3, s4, hb⟩; have S3n := Aside0.mk (s3); have S4n := Aside0.mk (s4); have HBx := Aside0.mk (below_step (bl HB.out) hb); clear HB hb s3 s4 S1 S2; have HB := HBx; have S3 := S3n; have S4 := S4n; clear HBx S3n S4n)
      | (go_at_call 111; (with_reducible refine (rounded_cs k m1 N1 D1 m2 N2 D2 _ (gl_below hGl (bl HB.out)) H2.out (S3.out.up climb) (S4.out.up climb)).mono ?_); rintro _ w3 ⟨A5, c5, A6, c6, rfl, s5, s6, hb⟩; have S5n := Aside0.mk (s5); have S6n := Aside0.mk (s6); have HBx := Aside0.mk (below_step (bl HB.out) hb); clear HB hb s5 s6 S3 S4; have HB := HBx; have S5 := S5n; have S6 := S6n; clear HBx S5n S6n)
      | (go_at_call 110; (with_reducible refine (scaled_cs k m2 N2 D2 (-(p : Int)) m3 N3 D3 _ (gl_below hGl (bl HB.out)) (by omega) (by omega) H3.out (S5.out.up climb) (S6.out.up climb)).mono ?_); rintro _ w4 ⟨A7, c7, A8, c8, rfl, s7, s8, hb⟩; have S7n := Aside0.mk (s7); have S8n := Aside0.mk (s8); have KNn := Aside0.mk (blk_below (blk_new w3 _) hb); have HBx := Aside0.mk (below_step (bl HB.out) hb); have S5x := Aside0.mk ((S5.out.up climb).up hb); have S6x := Aside0.mk ((S6.out.up climb).up hb); clear HB S5 S6 hb s7 s8; have HB := HBx; have S5 := S5x; have S6 := S6x; have S7 := S7n; have S8 := S8n; have KN := KNn; clear HBx S5x S6x S7n S8n KNn)
      | (go_at_call 102; (with_reducible refine (write_cs k m3 N3 D3 x0 x1 _ _ (gl_below hGl (bl HB.out)) H4.out (S7.out.up climb) (S8.out.up climb)).mono ?_); rintro _ w5 ⟨rfl, hb⟩; have HBx := Aside0.mk (below_step (bl HB.out) hb); have S5x := Aside0.mk ((S5.out.up climb).up hb); have S6x := Aside0.mk ((S6.out.up climb).up hb); have KNx := Aside0.mk (blk_below (blk_below KN.out climb) hb); clear HB S5 S6 KN hb S7 S8; have HB := HBx; have S5 := S5x; have S6 := S6x; have KN := KNx; clear HBx S5x S6x KNx; have j0 := (blk_cell KN.out 0).trans rfl; have j1 := (blk_cell KN.out 1).trans rfl; have j2 := (blk_cell KN.out 2).trans rfl; have jz := blk_lt KN.out))
    go_ret2
    exact ⟨rfl, bl HB.out⟩
  subst hx
  rw [if_pos rfl] at h
  obtain ⟨s, h5, h⟩ := Option.bind_eq_some_iff.1 h
  simp only [Option.some.injEq, Prod.mk.injEq] at h
  obtain ⟨rfl, rfl⟩ := h
  have H1 := Aside0.mk h1; have H2 := Aside0.mk h2; have H3 := Aside0.mk h3; have H4 := Aside0.mk h4; have H5 := Aside0.mk h5
  clear h1 h2 h3 h4 h5
  have y1 : decide ((p : Int) < 0) = false := decide_eq_false (by omega)
  have y2 : decide (100 < p) = false := decide_eq_false (by omega)
  have y3 : ((100 : Int) < (p : Int)) = False := eq_false (by omega)
  have y4 : (100 < p) = False := eq_false (by omega)
  go_enter Tryz.func82, Tryz.ntmps82
  go_wp2_with (first
    | (go_at_call 31; (with_reducible refine (read_cs k a0 a1 m N D 0 _ (gl_below hGl (bl HB.out)) H0.out).mono ?_); rintro _ w1 ⟨A1, c1, A2, c2, rfl, s1, s2, hb⟩; have S1n := Aside0.mk (s1); have S2n := Aside0.mk (s2); have HBx := Aside0.mk (below_step (bl HB.out) hb); clear HB hb s1 s2; have HB := HBx; have S1 := S1n; have S2 := S2n; clear HBx S1n S2n)
    | (go_at_call 110; (with_reducible refine (scaled_cs k m N D (p : Int) m1 N1 D1 _ (gl_below hGl (bl HB.out)) (by omega) (by omega) H1.out (S1.out.up climb) (S2.out.up climb)).mono ?_); rintro _ w2 ⟨A3, c3, A4, c4, rfl, s3, s4, hb⟩; have S3n := Aside0.mk (s3); have S4n := Aside0.mk (s4); have HBx := Aside0.mk (below_step (bl HB.out) hb); clear HB hb s3 s4 S1 S2; have HB := HBx; have S3 := S3n; have S4 := S4n; clear HBx S3n S4n)
    | (go_at_call 111; (with_reducible refine (rounded_cs k m1 N1 D1 m2 N2 D2 _ (gl_below hGl (bl HB.out)) H2.out (S3.out.up climb) (S4.out.up climb)).mono ?_); rintro _ w3 ⟨A5, c5, A6, c6, rfl, s5, s6, hb⟩; have S5n := Aside0.mk (s5); have S6n := Aside0.mk (s6); have HBx := Aside0.mk (below_step (bl HB.out) hb); clear HB hb s5 s6 S3 S4; have HB := HBx; have S5 := S5n; have S6 := S6n; clear HBx S5n S6n)
    | (go_at_call 110; (with_reducible refine (scaled_cs k m2 N2 D2 (-(p : Int)) m3 N3 D3 _ (gl_below hGl (bl HB.out)) (by omega) (by omega) H3.out (S5.out.up climb) (S6.out.up climb)).mono ?_); rintro _ w4 ⟨A7, c7, A8, c8, rfl, s7, s8, hb⟩; have S7n := Aside0.mk (s7); have S8n := Aside0.mk (s8); have KNn := Aside0.mk (blk_below (blk_new w3 _) hb); have HBx := Aside0.mk (below_step (bl HB.out) hb); have S5x := Aside0.mk ((S5.out.up climb).up hb); have S6x := Aside0.mk ((S6.out.up climb).up hb); clear HB S5 S6 hb s7 s8; have HB := HBx; have S5 := S5x; have S6 := S6x; have S7 := S7n; have S8 := S8n; have KN := KNn; clear HBx S5x S6x S7n S8n KNn)
    | (go_at_call 102; (with_reducible refine (write_cs k m3 N3 D3 x0 x1 _ _ (gl_below hGl (bl HB.out)) H4.out (S7.out.up climb) (S8.out.up climb)).mono ?_); rintro _ w5 ⟨rfl, hb⟩; have HBx := Aside0.mk (below_step (bl HB.out) hb); have S5x := Aside0.mk ((S5.out.up climb).up hb); have S6x := Aside0.mk ((S6.out.up climb).up hb); have KNx := Aside0.mk (blk_below (blk_below KN.out climb) hb); clear HB S5 S6 KN hb S7 S8; have HB := HBx; have S5 := S5x; have S6 := S6x; have KN := KNx; clear HBx S5x S6x KNx; have j0 := (blk_cell KN.out 0).trans rfl; have j1 := (blk_cell KN.out 1).trans rfl; have j2 := (blk_cell KN.out 2).trans rfl; have jz := blk_lt KN.out)
    | (go_at_call 38; (with_reducible refine (decimal_cs k m2 N2 D2 p s _ (gl_below hGl (bl HB.out)) H5.out (S5.out.up climb)).mono ?_); rintro _ w6 ⟨rfl, hb⟩; have HBx := Aside0.mk (below_step (bl HB.out) hb); clear HB hb ; have HB := HBx; clear HBx))
  go_ret2
  exact ⟨rfl, bl HB.out⟩
end Go.Proofs.YtckfdhnimmaeiaaGreatDoor.Pr
