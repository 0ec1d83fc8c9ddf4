/- exact.Floor where the fraction is good, walked by hand. -/
import Derived.Test.YtefhcgnamfnkbaaGreatDoorDs
namespace Go.Proofs.YtefhcgnamfnkbaaGreatDoor.Pr
open Go.RowKit Go.Proofs.YtefhcgnamfnkbaaGreatDoorW.PrintWords Go.Proofs.YtefhcgnamfnkbaaGreatDoorW.PrintLast Go.Proofs.YtefhcgnamfnkbaaGreatDoorW.PrintMore

/-- exact.Floor; nothing is told where the fraction has an error. -/
def exact_Floor.f (k : Nat) (a0 a1 : ByteArray) : Option (ByteArray × ByteArray × Int) := (exact_read.f k a0 a1).bind fun t => if t.2.2.2 = 0 then (exact_divide.f k t.2.1 t.2.2.1).bind fun q => if t.1 = true then (exact_nat_zero.f q.2).bind fun z => if z = true then exact_number_write.f k t.1 q.1 [1] else (exact_nat_plus.f k q.1 [1]).bind fun p => exact_number_write.f k t.1 p [1] else exact_number_write.f k t.1 q.1 [1] else none
set_option maxHeartbeats 4000000 in
set_option maxRecDepth 100000 in
theorem exact_Floor.calls (k : Nat) (a0 a1 : ByteArray) (r0 r1 : ByteArray) (r2 : Int) (w : World) (hGl : Gl w) (h : exact_Floor.f k a0 a1 = some (r0, r1, r2)) :
    Calls Tryz.prog 15 #[.agg #[.string a0, .string a1]] w fun e w' => e = .returned (.tuple #[.agg #[.string r0, .string r1], .int .i64 r2]) ∧ Below w.heap.size w w' := by
  have hu23 := Tryz.underlying23
  have hu80 := Tryz.underlying80
  have HB := Aside0.mk (Below.refl w.heap.size w)
  obtain ⟨⟨m, N, D, e⟩, h0, h⟩ := Option.bind_eq_some_iff.1 h
  have H0 := Aside0.mk h0
  clear h0
  dsimp only at h
  by_cases he : e = 0
  case neg => rw [if_neg he] at h; cases h
  subst he
  rw [if_pos rfl] at h
  obtain ⟨⟨q, r⟩, h1, h⟩ := Option.bind_eq_some_iff.1 h
  have H1 := Aside0.mk h1
  clear h1
  dsimp only at h
  -- the result's box
  have K := Aside0.mk (show ((w.alloc (.cells #[.string a0, .string a1] 23)).alloc (.cells #[.string (⟨#[]⟩ : ByteArray), .string (⟨#[]⟩ : ByteArray)] 23)).heap[w.heap.size + 1]? = some (.cells #[.string (⟨#[]⟩ : ByteArray), .string (⟨#[]⟩ : ByteArray)] 23 (0, 0)) from by
    have := blk_new (w.alloc (.cells #[.string a0, .string a1] 23)) (.cells #[.string (⟨#[]⟩ : ByteArray), .string (⟨#[]⟩ : ByteArray)] 23)
    rw [World.size_alloc] at this
    exact this)
  cases m with
  | false =>
    rw [if_neg (by decide)] at h
    have H2 := Aside0.mk h
    clear h
    go_enter Tryz.func15, Tryz.ntmps15
    go_wp2_with (first
      | (go_at_call 46; refine (read_cs k a0 a1 _ N D 0 _ (gl_below hGl (bl HB.out)) H0.out).mono ?_; rintro _ w1 ⟨A1, c1, A2, c2, rfl, s1, s2, hb⟩; have S1 := Aside0.mk s1; have S2 := Aside0.mk s2; have n_ := Aside0.mk (below_step (bl HB.out) hb); have k_ := Aside0.mk (blk_below (blk_below K.out climb) hb); clear HB K s1 s2 hb; have HB := n_; have K := k_; clear n_ k_)
      | (go_at_call 47; refine (divide_cs k N D q r _ (gl_below hGl (bl HB.out)) H1.out (S1.out.up climb) (S2.out.up climb)).mono ?_; rintro _ w2 ⟨A3, c3, A4, c4, rfl, s3, s4, hb⟩; have hk := blk_below (blk_new _ _) hb; have hcz := (blk_cell hk 0).trans rfl; have KN := Aside0.mk hk; have S3 := Aside0.mk s3; have S4 := Aside0.mk s4; have n_ := Aside0.mk (below_step (bl HB.out) hb); have k_ := Aside0.mk (blk_below (blk_below K.out climb) hb); clear HB K S1 S2 s3 s4 hk hb; have HB := n_; have K := k_; clear n_ k_)
      | (go_at_call 49; refine (write_cs k _ q [1] r0 r1 r2 _ (gl_below hGl (bl HB.out)) H2.out (S3.out.up climb) ((lit_cs _ 1).up climb)).mono ?_; rintro _ w4 ⟨rfl, hb⟩; have n_ := Aside0.mk (below_step (bl HB.out) hb); have k_ := Aside0.mk (blk_below (blk_below K.out climb) hb); clear HB K hb hcz; have HB := n_; have K := k_; clear n_ k_; have d0 := (blk_cell K.out 0).trans rfl; have d1 := (blk_cell (blk_set K.out 0 (.string r0)) 1).trans rfl; have f0 := blk_frozen K.out 0; have f1 := blk_frozen (blk_set K.out 0 (.string r0)) 1))
    refine bodyPost_ret (results_ct rfl _ _ (w.heap.size + 1) 23 _ (0, 0) _ rfl (blk_set (blk_set K.out 0 (.string r0)) 1 (.string r1)) Tryz.underlying23 rfl (by kernel_rfl)) rfl ?_
    exact ⟨rfl, below_set (below_set HB.out (Nat.le_succ _)) (Nat.le_succ _)⟩
  | true =>
    rw [if_pos rfl] at h
    obtain ⟨z, h3, h⟩ := Option.bind_eq_some_iff.1 h
    have H3 := Aside0.mk h3
    clear h3
    cases z with
    | true =>
      rw [if_pos rfl] at h
      have H2 := Aside0.mk h
      clear h
      go_enter Tryz.func15, Tryz.ntmps15
      go_wp2_with (first
        | (go_at_call 46; refine (read_cs k a0 a1 _ N D 0 _ (gl_below hGl (bl HB.out)) H0.out).mono ?_; rintro _ w1 ⟨A1, c1, A2, c2, rfl, s1, s2, hb⟩; have S1 := Aside0.mk s1; have S2 := Aside0.mk s2; have n_ := Aside0.mk (below_step (bl HB.out) hb); have k_ := Aside0.mk (blk_below (blk_below K.out climb) hb); clear HB K s1 s2 hb; have HB := n_; have K := k_; clear n_ k_)
        | (go_at_call 47; refine (divide_cs k N D q r _ (gl_below hGl (bl HB.out)) H1.out (S1.out.up climb) (S2.out.up climb)).mono ?_; rintro _ w2 ⟨A3, c3, A4, c4, rfl, s3, s4, hb⟩; have hk := blk_below (blk_new _ _) hb; have hcz := (blk_cell hk 0).trans rfl; have KN := Aside0.mk hk; have S3 := Aside0.mk s3; have S4 := Aside0.mk s4; have n_ := Aside0.mk (below_step (bl HB.out) hb); have k_ := Aside0.mk (blk_below (blk_below K.out climb) hb); clear HB K S1 S2 s3 s4 hk hb; have HB := n_; have K := k_; clear n_ k_)
        | (go_at_call 44; refine (zero_cs r _ _ (gl_below hGl (bl HB.out)) H3.out (S4.out.up climb)).mono ?_; rintro _ w3 ⟨rfl, hb⟩; have kn_ := Aside0.mk (blk_below (blk_below KN.out climb) hb); have s3_ := Aside0.mk ((S3.out.up climb).up hb); have n_ := Aside0.mk (below_step (bl HB.out) hb); have k_ := Aside0.mk (blk_below (blk_below K.out climb) hb); clear HB K KN S3 S4 hb hcz; have HB := n_; have K := k_; have KN := kn_; have S3 := s3_; clear n_ k_ kn_ s3_; have hcz := (blk_cell KN.out 0).trans rfl)
        | (go_at_call 49; refine (write_cs k _ q [1] r0 r1 r2 _ (gl_below hGl (bl HB.out)) H2.out (S3.out.up climb) ((lit_cs _ 1).up climb)).mono ?_; rintro _ w4 ⟨rfl, hb⟩; have n_ := Aside0.mk (below_step (bl HB.out) hb); have k_ := Aside0.mk (blk_below (blk_below K.out climb) hb); clear HB K hb hcz; have HB := n_; have K := k_; clear n_ k_; have d0 := (blk_cell K.out 0).trans rfl; have d1 := (blk_cell (blk_set K.out 0 (.string r0)) 1).trans rfl; have f0 := blk_frozen K.out 0; have f1 := blk_frozen (blk_set K.out 0 (.string r0)) 1))
      refine bodyPost_ret (results_ct rfl _ _ (w.heap.size + 1) 23 _ (0, 0) _ rfl (blk_set (blk_set K.out 0 (.string r0)) 1 (.string r1)) Tryz.underlying23 rfl (by kernel_rfl)) rfl ?_
      exact ⟨rfl, below_set (below_set HB.out (Nat.le_succ _)) (Nat.le_succ _)⟩
    | false =>
      rw [if_neg (by decide)] at h
      obtain ⟨p, h4, h⟩ := Option.bind_eq_some_iff.1 h
      have H4 := Aside0.mk h4
      have H2 := Aside0.mk h
      clear h h4
      go_enter Tryz.func15, Tryz.ntmps15
      go_wp2_with (first
        | (go_at_call 46; refine (read_cs k a0 a1 _ N D 0 _ (gl_below hGl (bl HB.out)) H0.out).mono ?_; rintro _ w1 ⟨A1, c1, A2, c2, rfl, s1, s2, hb⟩; have S1 := Aside0.mk s1; have S2 := Aside0.mk s2; have n_ := Aside0.mk (below_step (bl HB.out) hb); have k_ := Aside0.mk (blk_below (blk_below K.out climb) hb); clear HB K s1 s2 hb; have HB := n_; have K := k_; clear n_ k_)
        | (go_at_call 47; refine (divide_cs k N D q r _ (gl_below hGl (bl HB.out)) H1.out (S1.out.up climb) (S2.out.up climb)).mono ?_; rintro _ w2 ⟨A3, c3, A4, c4, rfl, s3, s4, hb⟩; have hk := blk_below (blk_new _ _) hb; have hcz := (blk_cell hk 0).trans rfl; have KN := Aside0.mk hk; have S3 := Aside0.mk s3; have S4 := Aside0.mk s4; have n_ := Aside0.mk (below_step (bl HB.out) hb); have k_ := Aside0.mk (blk_below (blk_below K.out climb) hb); clear HB K S1 S2 s3 s4 hk hb; have HB := n_; have K := k_; clear n_ k_)
        | (go_at_call 44; refine (zero_cs r _ _ (gl_below hGl (bl HB.out)) H3.out (S4.out.up climb)).mono ?_; rintro _ w3 ⟨rfl, hb⟩; have kn_ := Aside0.mk (blk_below (blk_below KN.out climb) hb); have s3_ := Aside0.mk ((S3.out.up climb).up hb); have n_ := Aside0.mk (below_step (bl HB.out) hb); have k_ := Aside0.mk (blk_below (blk_below K.out climb) hb); clear HB K KN S3 S4 hb hcz; have HB := n_; have K := k_; have KN := kn_; have S3 := s3_; clear n_ k_ kn_ s3_; have hcz := (blk_cell KN.out 0).trans rfl)
        | (go_at_call 48; refine (plus_cs k q [1] p _ (gl_below hGl (bl HB.out)) H4.out (S3.out.up climb) ((lit_cs _ 1).up climb)).mono ?_; rintro _ w5 ⟨A5, c5, rfl, s5, hb⟩; have kn_ := Aside0.mk (blk_below (blk_below KN.out climb) hb); have S5 := Aside0.mk s5; have n_ := Aside0.mk (below_step (bl HB.out) hb); have k_ := Aside0.mk (blk_below (blk_below K.out climb) hb); clear HB K KN S3 s5 hb hcz; have HB := n_; have K := k_; have KN := kn_; clear n_ k_ kn_; have hcz := (blk_cell KN.out 0).trans rfl)
        | (go_at_call 49; refine (write_cs k _ p [1] r0 r1 r2 _ (gl_below hGl (bl HB.out)) H2.out (S5.out.up climb) ((lit_cs _ 1).up climb)).mono ?_; rintro _ w4 ⟨rfl, hb⟩; have n_ := Aside0.mk (below_step (bl HB.out) hb); have k_ := Aside0.mk (blk_below (blk_below K.out climb) hb); clear HB K hb hcz; have HB := n_; have K := k_; clear n_ k_; have d0 := (blk_cell K.out 0).trans rfl; have d1 := (blk_cell (blk_set K.out 0 (.string r0)) 1).trans rfl; have f0 := blk_frozen K.out 0; have f1 := blk_frozen (blk_set K.out 0 (.string r0)) 1))
      refine bodyPost_ret (results_ct rfl _ _ (w.heap.size + 1) 23 _ (0, 0) _ rfl (blk_set (blk_set K.out 0 (.string r0)) 1 (.string r1)) Tryz.underlying23 rfl (by kernel_rfl)) rfl ?_
      exact ⟨rfl, below_set (below_set HB.out (Nat.le_succ _)) (Nat.le_succ _)⟩
end Go.Proofs.YtefhcgnamfnkbaaGreatDoor.Pr
