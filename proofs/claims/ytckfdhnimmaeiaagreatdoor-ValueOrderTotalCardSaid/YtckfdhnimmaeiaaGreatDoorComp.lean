/- exact.Compare, walked by hand. -/
import Derived.Test.YtckfdhnimmaeiaaGreatDoorDs
namespace Go.Proofs.YtckfdhnimmaeiaaGreatDoor.Pr
open Go.RowKit Go.Proofs.YtckfdhnimmaeiaaGreatDoorW.PrintWords Go.Proofs.YtckfdhnimmaeiaaGreatDoorW.PrintLast Go.Proofs.YtckfdhnimmaeiaaGreatDoorW.PrintMore

def exact_Compare.f (k : Nat) (a0_0 : ByteArray) (a0_1 : ByteArray) (a1_0 : ByteArray) (a1_1 : ByteArray) : Option (Int × Int) := (exact_both.f k a0_0 a0_1 a1_0 a1_1).bind fun bt421 => (if bt421.2.2.2.2.2.2 = 0 then ((exact_sum.f k bt421.1 bt421.2.1 bt421.2.2.1 (!bt421.2.2.2.1) bt421.2.2.2.2.1 bt421.2.2.2.2.2.1).bind fun bt438 => ((exact_nat_zero.f bt438.2.1).bind fun t446 => (if t446 = true then (some (0, 0)) else (if bt438.1 = true then (some ((-1), 0)) else (some (1, 0)))))) else (some (0, bt421.2.2.2.2.2.2)))
set_option maxHeartbeats 4000000 in
set_option maxRecDepth 100000 in
theorem exact_Compare.calls (k : Nat) (a0 a1 b0 b1 : ByteArray) (r1 r2 : Int) (w : World) (hGl : Gl w) (h : exact_Compare.f k a0 a1 b0 b1 = some (r1, r2)) :
    Calls Tryz.prog 53 #[.agg #[.string a0, .string a1], .agg #[.string b0, .string b1]] w fun e w' => e = .returned (.tuple #[.int .i64 r1, .int .i64 r2]) ∧ Below w.heap.size w w' := by
  have hu23 := Tryz.underlying30
  have hu80 := Tryz.underlying64
  have HB := Aside0.mk (Below.refl w.heap.size w)
  obtain ⟨⟨m, N, D, m', N', D', e⟩, h0, h⟩ := Option.bind_eq_some_iff.1 h
  have H0 := Aside0.mk h0
  clear h0
  dsimp only at h
  by_cases he : e = 0
  · subst he
    rw [if_pos rfl] at h
    obtain ⟨⟨M, P, R⟩, h1, h⟩ := Option.bind_eq_some_iff.1 h
    have H1 := Aside0.mk h1
    clear h1
    dsimp only at h
    obtain ⟨z, h2, h⟩ := Option.bind_eq_some_iff.1 h
    have H2 := Aside0.mk h2
    clear h2
    cases z <;> (try cases M) <;> simp only [if_true, Bool.false_eq_true, if_false, Option.some.injEq, Prod.mk.injEq] at h <;> obtain ⟨rfl, rfl⟩ := h
    all_goals
      go_enter Tryz.func53, Tryz.ntmps53
      go_wp2_with (first
        | (go_at_call 80; refine (both_cs k a0 a1 b0 b1 m N D m' N' D' 0 _ (gl_below hGl (bl HB.out)) H0.out).mono ?_; rintro _ w1 ⟨A1, c1, A2, c2, A3, c3, A4, c4, rfl, s1, s2, s3, s4, hb⟩; have S1 := Aside0.mk s1; have S2 := Aside0.mk s2; have S3 := Aside0.mk s3; have S4 := Aside0.mk s4; have n_ := Aside0.mk (below_step (bl HB.out) hb); clear HB s1 s2 s3 s4 hb; have HB := n_; clear n_)
        | (go_at_call 81; refine (sum_cs k _ N D _ N' D' _ P R _ (gl_below hGl (bl HB.out)) H1.out (S1.out.up climb) (S2.out.up climb) (S3.out.up climb) (S4.out.up climb)).mono ?_; rintro _ w2 ⟨A5, c5, A6, c6, rfl, s5, s6, hb⟩; have S5 := Aside0.mk s5; have n_ := Aside0.mk (below_step (bl HB.out) hb); clear HB S1 S2 S3 S4 s5 s6 hb; have HB := n_; clear n_)
        | (go_at_call 34; refine (zero_cs P _ _ (gl_below hGl (bl HB.out)) H2.out (S5.out.up climb)).mono ?_; rintro _ w3 ⟨rfl, hb⟩; have n_ := Aside0.mk (below_step (bl HB.out) hb); have hk := blk_below (blk_new _ _) hb; have hc := (blk_cell hk 0).trans rfl; clear HB S5 hb hk; have HB := n_; clear n_))
      go_ret2
      exact ⟨rfl, bl HB.out⟩
  · rw [if_neg he] at h
    simp only [Option.some.injEq, Prod.mk.injEq] at h
    obtain ⟨rfl, rfl⟩ := h
    have he1 : (e != 0) = true := bne_iff_ne.mpr he
    clear he
    go_enter Tryz.func53, Tryz.ntmps53
    go_wp2_with (first
        | (go_at_call 80; refine (both_cs k a0 a1 b0 b1 m N D m' N' D' e _ (gl_below hGl (bl HB.out)) H0.out).mono ?_; rintro _ w1 ⟨A1, c1, A2, c2, A3, c3, A4, c4, rfl, s1, s2, s3, s4, hb⟩; have n_ := Aside0.mk (below_step (bl HB.out) hb); clear HB s1 s2 s3 s4 hb; have HB := n_; clear n_))
    go_ret2
    exact ⟨rfl, bl HB.out⟩
end Go.Proofs.YtckfdhnimmaeiaaGreatDoor.Pr
