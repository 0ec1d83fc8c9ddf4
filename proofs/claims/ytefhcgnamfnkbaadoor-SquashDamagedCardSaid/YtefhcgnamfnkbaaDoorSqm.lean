/- SquashDamaged, walked by hand. -/
import Derived.Test.YtefhcgnamfnkbaaDoorSqz
import Derived.Test.YtefhcgnamfnkbaaDoorRep
namespace Go.Proofs.YtefhcgnamfnkbaaDoor.Pr
open Go.RowKit Go.Proofs.YtefhcgnamfnkbaaDoorW.PrintWords Go.Proofs.YtefhcgnamfnkbaaDoorW.PrintLast Go.Proofs.YtefhcgnamfnkbaaDoorW.PrintMore
set_option linter.unusedVariables false
set_option linter.unusedSimpArgs false
set_option maxHeartbeats 2000000 in
set_option maxRecDepth 100000 in
theorem mod_calls (a n : Int) (w : World) (h0 : 0 < n) (hn : n ≤ 1000000) :
    Calls Tryd.prog 13 #[.int .i64 a, .int .i64 n] w fun r w' => ∃ k : Nat, r = .returned (.int .i64 (k : Int)) ∧ (k : Int) < n ∧ Below w.heap.size w w' := by
  have q : n ≠ 0 := by omega
  have c3b0 : (n == 0) = false := beq_eq_false_iff_ne.mpr q
  have h1 := Int.tmod_lt_of_pos a h0
  have h2 := Int.lt_tmod_of_pos a h0
  have e : wrap64 (Int.tmod a n + n) = Int.tmod a n + n := by unfold wrap64; omega
  have h3 : 0 ≤ Int.tmod (Int.tmod a n + n) n := Int.tmod_nonneg _ (by omega)
  have h4 := Int.tmod_lt_of_pos (Int.tmod a n + n) h0
  obtain ⟨k, hk⟩ := Int.eq_ofNat_of_zero_le h3
  clear h3
  go_enter Tryd.func13, Tryd.ntmps13
  go_wp2
  go_ret
  exact ⟨k, by rw [← hk]; first | rfl | (rw [e]; rfl) | (rw [e]), by omega, climb⟩
theorem byte_own {w : World} {h : Nat} {c : Int} (hb : w.heap[h]? = some (.cells #[.int .u8 c] 5 (0, 0))) : w.ownsRow h 5 1 (.slice (some ⟨h, 0, none⟩) 1 1) 1 (ub [c]) :=
  ⟨rfl, .inr ⟨h, 1, _, rfl, Nat.le_refl _, hb, by omega, by unfold maxLen; omega, rfl, rfl⟩⟩
set_option maxHeartbeats 8000000 in
set_option maxRecDepth 100000 in
theorem law_walk (s : ByteArray) (z c : Int) (w : World) (hb : Gb w) (hg : 1 ≤ w.heap.size) :
    Calls Tryd.prog 4 #[.string s, .int .i64 z, .int .u8 c] w fun r w' => r = .returned (.bool true) ∧ Below w.heap.size w w' := by
  have HG := Aside0.mk hb
  clear hb
  obtain ⟨m, hm⟩ : ∃ m : Nat, (m : Int) = min (s.size : Int) 200 := ⟨(min (s.size : Int) 200).toNat, by omega⟩
  have hm1 : m ≤ s.size := by omega
  have hm2 : m ≤ 200 := by omega
  go_enter Tryd.func4, Tryd.ntmps4
  have hx0 : (s.extract 0 m).size ≤ 200 := by simp; omega
  go_upto_region 2 with (fail)
  rw [← hm, Int.toNat_natCast]
  refine (repeat_calls (s.extract 0 m) _ hx0).mono ?_
  rintro _ w1 ⟨t, rfl, ht, hb1⟩
  have B1 := Aside0.mk hb1
  clear hb1 hx0 hm1 hm2
  go_upto_region 2 with (go_at_call 10; (with_reducible refine (pack_calls t _ ht (HG.out.below hg B1.out) (by have := B1.out.size; omega)).mono ?_); rintro _ w2 ⟨o, rfl, ho5, ho6, hb2⟩; have B2 := Aside0.mk (below_step B1.out hb2); clear hb2)
  go_upto_region 5 with (go_at_call 13; (with_reducible refine (mod_calls z (o.size : Int) _ (by omega) (by omega)).mono ?_); rintro _ w3 ⟨k, rfl, hk, hb3⟩; have B3 := Aside0.mk (below_step B2.out hb3); clear hb3)
  have r1 : (0 : Int) ≤ (k : Int) := by omega
  have r2 : (k : Int) ≤ (o.size : Int) := by omega
  have r3 : wrap64 ((k : Int) + 1) = (k : Int) + 1 := by unfold wrap64; omega
  have r4 : (0 : Int) ≤ (k : Int) + 1 := by omega
  have r5 : (k : Int) + 1 ≤ (o.size : Int) := by omega
  obtain ⟨T, hT⟩ : ∃ T, T = strOfNums [c] := ⟨_, rfl⟩
  have hTs : T.size = 1 := by rw [hT, strOf_size]; rfl
  have hb9 := blk_new w3 (.cells #[.int .u8 c] 5)
  have hcv1 : (convert 29 9 (.slice (some ⟨w3.heap.size, 0, none⟩) 1 1)).run Tryd.prog (w3.alloc (.cells #[.int .u8 c] 5)).drew = .ok (.string T) (w3.alloc (.cells #[.int .u8 c] 5)).drew := by rw [hT]; exact bytes_run (byte_own (blk_drew hb9))
  have hcv2 : (convert 29 9 (.slice (some ⟨w3.heap.size, 0, none⟩) 1 1)).run Tryd.prog (w3.drew.alloc (.cells #[.int .u8 c] 5)) = .ok (.string T) (w3.drew.alloc (.cells #[.int .u8 c] 5)) := by rw [hT]; exact bytes_run (byte_own (blk_new w3.drew (.cells #[.int .u8 c] 5)))
  obtain ⟨O1, hO1⟩ : ∃ O, O = o.extract 0 k := ⟨_, rfl⟩
  obtain ⟨O2, hO2⟩ : ∃ O, O = o.extract (k + 1) o.size := ⟨_, rfl⟩
  have hs1 : O1.size = k := by rw [hO1]; simp; omega
  have hs2 : O2.size = o.size - (k + 1) := by rw [hO2]; simp
  have hc1 : ¬ 9223372036854775807 < (o.extract 0 k).size + T.size := by rw [← hO1]; omega
  have hc2 : ¬ 9223372036854775807 < (o.extract 0 k ++ T).size + (o.extract (k + 1) o.size).size := by rw [← hO1, ← hO2, ByteArray.size_append]; omega
  have r6 : ((k : Int) + 1).toNat = k + 1 := by omega
  clear hT hb9 hO1 hO2
  go_region
  obtain ⟨q, hq⟩ : ∃ q, q = o.extract 0 k ++ T ++ o.extract (k + 1) o.size := ⟨_, rfl⟩
  have hqs : q.size = o.size := by rw [hq, ByteArray.size_append, ByteArray.size_append]; simp; omega
  have B5 := Aside0.mk (show Below w.heap.size w (w3.alloc (.cells #[.int .u8 c] 5)).drew from below_step B3.out climb)
  obtain ⟨W5, hW5⟩ : ∃ W5, W5 = (w3.alloc (.cells #[.int .u8 c] 5)).drew := ⟨_, rfl⟩
  rw [← hW5] at B5 ⊢
  rw [← hq]
  clear hW5 hq hcv1 hcv2 hc1 hc2 hs1 hs2 r1 r2 r3 r4 r5 r6 hTs hk
  have q5 : 5 ≤ q.size := by omega
  have g3 : (3 : Int) < (q.size : Int) := by omega
  have g2 : (2 : Int) < (q.size : Int) := by omega
  have g1 : (1 : Int) < (q.size : Int) := by omega
  have g0 : (0 : Int) < (q.size : Int) := by omega
  have qm : q.size ≤ 1099511627776 := by omega
  clear hqs
  by_cases e0 : (q[0]'(by omega)).toNat = 0
  · by_cases e1 : (q[1]'(by omega)).toNat = 0
    · go_wp2_with (fail)
      refine (unpack_calls q _ q5 qm e0 e1 (HG.out.below hg B5.out) (by have := B5.out.size; omega)).mono ?_
      rintro _ w6 ⟨u, e, rfl, hres, hb6⟩
      have B6 := Aside0.mk (below_step B5.out hb6)
      clear hb6
      rcases hres with ⟨he, rfl⟩ | ⟨rfl, hsz⟩
      · have he' : (e != 0) = true := bne_iff_ne.2 he
        go_wp2
        go_ret
        exact ⟨rfl, bl B6.out⟩
      · have hj := or_join2 (q[2]'(by omega)).toNat (q[3]'(by omega)).toNat (UInt8.toNat_lt _) (UInt8.toNat_lt _)
        have hz2 : (u.size : Int) = ((256 * (q[2]'(by omega)).toNat + (q[3]'(by omega)).toNat : Nat) : Int) := by rw [hsz]; omega
        rw [← hz2] at hj
        clear hsz hz2
        go_upto_region 11 with (fail)
        go_quiet (fail)
        go_wp2
        go_ret
        exact ⟨rfl, bl B6.out⟩
    · go_wp2_with (fail)
      go_ret
      exact ⟨rfl, bl B5.out⟩
  · go_wp2_with (fail)
    all_goals
      go_ret
      exact ⟨rfl, bl B5.out⟩
end Go.Proofs.YtefhcgnamfnkbaaDoor.Pr
