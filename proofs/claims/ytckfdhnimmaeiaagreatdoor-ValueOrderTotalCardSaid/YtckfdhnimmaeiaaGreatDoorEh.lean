/- values, mod and DatesStep, walked by hand. -/
import Derived.Test.YtckfdhnimmaeiaaGreatDoorEg
namespace Go.Proofs.YtckfdhnimmaeiaaGreatDoor.Pr
open Go.RowKit Go.Proofs.YtckfdhnimmaeiaaGreatDoorW.PrintWords Go.Proofs.YtckfdhnimmaeiaaGreatDoorW.PrintLast Go.Proofs.YtckfdhnimmaeiaaGreatDoorW.PrintMore
open Go.Proofs.YtckfdhnimmaeiaaGreatDoor.Sd
set_option linter.unusedVariables false
set_option linter.unusedSimpArgs false
theorem enter_l (w : World) (hGl : Gl w) (hF : Fs w) :
    Calls Tryz.prog 15 #[.string ⟨#[49, 57, 48, 48, 45, 48, 49, 45, 48, 50]⟩] w fun x w' => x = .returned (.agg #[.int .i64 1, .string s2, .string s1, .string ⟨#[]⟩, .bool false, .int .i64 0, .int .i64 0, .int .i64 0, .slice none 0 0]) ∧ Below w.heap.size w w' := enter_c w hGl hF
set_option maxHeartbeats 2000000 in
set_option maxRecDepth 100000 in
theorem values_c (w : World) (hGl : Gl w) (hF : Fs w) : Calls Tryz.prog 6 #[] w fun x w' => x = .returned (.bool true) ∧ Below w.heap.size w w' := by
  have EC := Aside0.mk (fun w hGl hF => enter_l w hGl hF)
  have SC := Aside0.mk (fun w hGl => show_num s2 s1 s2 20 w hGl (by decide +kernel) (by decide +kernel) (by decide))
  have q1 : (s2.toList == [50]) = true := by decide +kernel
  obtain ⟨t, ht⟩ : ∃ t, t = s2 := ⟨_, rfl⟩
  obtain ⟨o, ho⟩ : ∃ o, o = s1 := ⟨_, rfl⟩
  rw [← ht] at EC SC q1
  rw [← ho] at EC SC
  have HG := Aside0.mk hGl
  have HF := Aside0.mk hF
  have B := Aside0.mk (Below.refl w.heap.size w)
  clear ht ho hGl hF
  go_enter Tryz.func6, Tryz.ntmps6
  go_wp2_with (first
    | (go_at_call 15; (with_reducible refine (EC.out _ (gl_below HG.out (bl B.out)) (HF.out.below (bl B.out))).mono ?_); rintro _ w1 ⟨rfl, hb1⟩; have B_ := Aside0.mk (below_step (bl B.out) hb1); clear B hb1; have B := B_; clear B_)
    | (go_at_call 13; (with_reducible refine (SC.out _ (gl_below HG.out (bl B.out))).mono ?_); rintro _ w1 ⟨rfl, hb1⟩; have B_ := Aside0.mk (below_step (bl B.out) hb1); clear B hb1; have B := B_; clear B_))
  go_ret
  exact ⟨rfl, bl B.out⟩
set_option maxHeartbeats 2000000 in
set_option maxRecDepth 100000 in
theorem mod_calls (a n : Int) (w : World) (h0 : 0 < n) (hn : n ≤ 10000000) :
    Calls Tryz.prog 7 #[.int .i64 a, .int .i64 n] w fun r w' => ∃ k : Nat, r = .returned (.int .i64 (k : Int)) ∧ (k : Int) < n ∧ Below w.heap.size w w' := by
  have q : n ≠ 0 := by omega
  have c3b0 : (n == 0) = false := beq_eq_false_iff_ne.mpr q
  have h1 := Int.tmod_lt_of_pos a h0
  have h2 := Int.lt_tmod_of_pos a h0
  have e : wrap64 (Int.tmod a n + n) = Int.tmod a n + n := by unfold wrap64; omega
  have h3 : 0 ≤ Int.tmod (Int.tmod a n + n) n := Int.tmod_nonneg _ (by omega)
  have h4 := Int.tmod_lt_of_pos (Int.tmod a n + n) h0
  obtain ⟨k, hk⟩ := Int.eq_ofNat_of_zero_le h3
  clear h3
  go_enter Tryz.func7, Tryz.ntmps7
  go_wp2
  go_ret
  exact ⟨k, by rw [← hk]; first | rfl | (rw [e]; rfl) | (rw [e]), by omega, climb⟩
set_option maxHeartbeats 4000000 in
set_option maxRecDepth 100000 in
theorem dates_walk (z : Int) (w : World) (hGl : Gl w) (hF : Fs w) :
    Calls Tryz.prog 3 #[.int .i64 z] w fun x w' => x = .returned (.bool true) ∧ Below w.heap.size w w' := by
  have VC := Aside0.mk (values_c w hGl hF)
  clear hGl hF
  go_enter Tryz.func3, Tryz.ntmps3
  go_upto_region 4 with (first
    | (go_at_call 6; (with_reducible refine VC.out.mono ?_); rintro _ w1 ⟨rfl, hb1⟩; have B := Aside0.mk hb1; clear hb1 VC)
    | (go_at_call 7; (with_reducible refine (mod_calls z 2958463 _ (by omega) (by omega)).mono ?_); rintro _ w1 ⟨k, rfl, hk, hb1⟩; have B_ := Aside0.mk (below_step (bl B.out) hb1); clear B hb1; have B := B_; clear B_))
  obtain ⟨n, hn⟩ : ∃ n : Int, n = 1 + (k : Int) := ⟨_, rfl⟩
  have hn1 : 1 ≤ n ∧ n + 1 ≤ 2958464 := by omega
  rw [← hn]
  clear hn hk
  go_upto_region 6 with (first
    | (go_at_call 8; (with_reducible refine (date_calls n _ (by omega) (by omega)).mono ?_); rintro _ w1 ⟨y, i, d, rfl, hy0, hy1, hD, hb1⟩; have D1 := Aside0.mk hD; have Y1 := Aside0.mk hy0; have Y2 := Aside0.mk hy1; clear hD hy0 hy1; have B_ := Aside0.mk (below_step (bl B.out) hb1); clear B hb1; have B := B_; clear B_)
    | (go_at_call 8; (with_reducible refine (date_calls (n + 1) _ (by omega) (by omega)).mono ?_); rintro _ w1 ⟨y2, i2, d2, rfl, hy0, hy1, hD, hb1⟩; have D2 := Aside0.mk hD; clear hD hy0 hy1; have B_ := Aside0.mk (below_step (bl B.out) hb1); clear B hb1; have B := B_; clear B_))
  have hst := D1.out.step D2.out
  have hmon := D1.out.mon
  have hlo := D1.out.lo
  have hhi := D1.out.hi
  have his := D1.out.is
  have hlen := len_pos (leap y) hmon
  have DY := Aside0.mk (fun w => day_yes y i d w Y1.out Y2.out hmon hlo (by omega) hhi)
  rw [his] at DY
  have DN := Aside0.mk (fun (hd : d = len (leap y) i) w => day_no y i (d + 1) w Y1.out Y2.out hmon (by omega) (by omega) (by omega))
  have hd31 : d ≤ 31 := by omega
  generalize len (leap y) i = l at hst hhi DN hlen
  clear his D1 D2 hlen
  rcases hst with ⟨rfl, hdl, hc⟩ | ⟨he, rfl, rfl, rfl⟩
  · have DN2 := Aside0.mk (DN.out hdl)
    clear DN
    subst hdl
    clear hhi
    rcases hc with ⟨rfl, rfl⟩ | ⟨rfl, rfl, rfl⟩
    · go_wp2_with (first
        | (go_at_call 9; (with_reducible refine (DY.out _).mono ?_); rintro _ w1 ⟨rfl, hb1⟩; have B_ := Aside0.mk (below_step (bl B.out) hb1); clear B hb1; have B := B_; clear B_)
        | (go_at_call 9; (with_reducible refine (DN2.out _).mono ?_); rintro _ w1 ⟨rfl, hb1⟩; have B_ := Aside0.mk (below_step (bl B.out) hb1); clear B hb1; have B := B_; clear B_))
      go_ret
      exact ⟨rfl, bl B.out⟩
    · have e12 : (((11 : Nat) : Int) + 1) = 12 := rfl
      have e01 : (((0 : Nat) : Int) + 1) = 1 := rfl
      rw [e12] at DY DN2
      rw [e12, e01]
      clear e12 e01
      have HY := Aside0.mk (show wrap64 (y + 1) = y + 1 by have := Y1.out; have := Y2.out; unfold wrap64; omega)
      go_wp2_with (first
        | (go_at_call 9; (with_reducible refine (DY.out _).mono ?_); rintro _ w1 ⟨rfl, hb1⟩; have B_ := Aside0.mk (below_step (bl B.out) hb1); clear B hb1; have B := B_; clear B_)
        | (go_at_call 9; (with_reducible refine (DN2.out _).mono ?_); rintro _ w1 ⟨rfl, hb1⟩; have B_ := Aside0.mk (below_step (bl B.out) hb1); clear B hb1; have B := B_; clear B_))
      go_ret
      exact ⟨by simp [HY.out], bl B.out⟩
  · go_wp2_with (first
      | (go_at_call 9; (with_reducible refine (DY.out _).mono ?_); rintro _ w1 ⟨rfl, hb1⟩; have B_ := Aside0.mk (below_step (bl B.out) hb1); clear B hb1; have B := B_; clear B_))
    go_ret
    exact ⟨rfl, bl B.out⟩
end Go.Proofs.YtckfdhnimmaeiaaGreatDoor.Pr
