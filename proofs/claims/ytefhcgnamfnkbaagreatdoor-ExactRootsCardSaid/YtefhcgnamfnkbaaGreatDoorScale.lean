/- number.scaled, walked by hand over digits that are only read. -/
import Derived.Test.YtefhcgnamfnkbaaGreatDoorDs
import Derived.Deep.RegionHeld3
import Derived.IntWalk
namespace Go.Proofs.YtefhcgnamfnkbaaGreatDoor.Pr
open Go.RowKit Go.Proofs.YtefhcgnamfnkbaaGreatDoorW.PrintWords Go.Proofs.YtefhcgnamfnkbaaGreatDoorW.PrintLast Go.Proofs.YtefhcgnamfnkbaaGreatDoorW.PrintMore

def exact_number_scaled.f (k : Nat) (m : Bool) (N D : List Int) (p : Int) : Option (Bool × List Int × List Int) := if p < 0 then (exact_ten.f k (wrap64 (-p))).bind fun t => (exact_nat_times.f k D t).bind fun r => some (m, N, r) else (exact_ten.f k p).bind fun t => (exact_nat_times.f k N t).bind fun r => some (m, r, D)
/-- Digits that lie in no block of S. -/
def Cx (S : Nat → Prop) (w : World) (A : Option Addr) (c : Nat) (l : List Int) : Prop := Kd.V (Kd.int .u32) 90 w 0 (fun k => ¬ S k) (.slice A l.length c) l
theorem Cx.cs {S : Nat → Prop} {w : World} {A : Option Addr} {c : Nat} {l : List Int} (h : Cx S w A c l) : Cs w A c l := Kd.V_mono h (fun _ _ => trivial)
theorem Cx.up {S : Nat → Prop} {w w' : World} {A : Option Addr} {c : Nat} {l : List Int} (h : Cx S w A c l) (k : Below w.heap.size w w') : Cx S w' A c l := Kd.V_below h k
theorem Cx.set {S : Nat → Prop} {w : World} {A : Option Addr} {c : Nat} {l : List Int} (h : Cx S w A c l) {p : Addr} (hp : S p.block) (u : Value) : Cx S (w.setCell p u) A c l := Kd.V_far h (fun k hk e => hk (by rw [e]; exact hp)) u
/-- Digits are older than what is made behind them. -/
theorem Cs.cx {w : World} {A : Option Addr} {c : Nat} {l : List Int} (h : Cs w A c l) (S : Nat → Prop) (hS : ∀ k, S k → w.heap.size ≤ k) : Cx S w A c l :=
  Kd.V_map h (fun _ hf => Kd.F_mono (Kd.F_bound hf) (fun k hk hs => by have := hS k hs; have := hk.2; omega))
theorem times_cx (S : Nat → Prop) (k : Nat) (l l' r : List Int) (W : World) (hS : ∀ k, S k → k < W.heap.size) (hGl : Gl W) (h : exact_nat_times.f k l l' = some r) {A A' : Option Addr} {c c' : Nat} (s : Cs W A c l) (s' : Cs W A' c' l') :
    Calls Tryz.prog 41 #[.slice A l.length c, .slice A' l'.length c'] W fun x w' => ∃ A1 c1, x = .returned (.slice A1 r.length c1) ∧ Cx S w' A1 c1 r ∧ Below W.heap.size W w' := by
  refine (exact_nat_times.calls k A c l A' c' l' r W s.reads s.len s'.reads s'.len hGl h).mono ?_
  rintro _ w' ⟨v1, rfl, h1, hb⟩
  obtain ⟨A1, c1, rfl⟩ := Kd.V_slice h1
  exact ⟨A1, c1, rfl, Kd.V_mono h1 (fun k hk hs => by have := hS k hs; omega), hb⟩

set_option maxHeartbeats 2000000 in
set_option maxRecDepth 100000 in
theorem scaled_cs (k : Nat) (m : Bool) (N D : List Int) (p : Int) (M : Bool) (P R : List Int) (w : World) (hGl : Gl w) (hp0 : -1000 ≤ p) (hp1 : p ≤ 1000) (h : exact_number_scaled.f k m N D p = some (M, P, R)) {A1 A2 : Option Addr} {c1 c2 : Nat} (s1 : Cs w A1 c1 N) (s2 : Cs w A2 c2 D) :
    Calls Tryz.prog 52 #[.agg #[.bool m, .slice A1 N.length c1, .slice A2 D.length c2], .int .i64 p] w fun x w' => ∃ A3 c3 A4 c4, x = .returned (.agg #[.bool M, .slice A3 P.length c3, .slice A4 R.length c4]) ∧ Cs w' A3 c3 P ∧ Cs w' A4 c4 R ∧ Below w.heap.size w w' := by
  have hu80 := Tryz.underlying80
  have hu78 := Tryz.underlying78
  have HB := Aside0.mk (Below.refl w.heap.size w)
  obtain ⟨S, hS⟩ : ∃ S : Nat → Prop, S = fun k => k = w.heap.size ∨ k = w.heap.size + 1 := ⟨_, rfl⟩
  have hS0 : ∀ k, S k → w.heap.size ≤ k := by rw [hS]; intro k hk; rcases hk with h | h <;> omega
  have hSa : S w.heap.size := by rw [hS]; exact Or.inl rfl
  have hSb : S (w.heap.size + 1) := by rw [hS]; exact Or.inr rfl
  have hS1 : ∀ k, S k → k < w.heap.size + 1 + 1 := by rw [hS]; intro k hk; rcases hk with h | h <;> omega
  have T1 := Aside0.mk (s1.cx S hS0)
  have T2 := Aside0.mk (s2.cx S hS0)
  have HS1 := Aside0.mk hS1
  clear s1 s2 hS hS0 hS1
  have e0 := blk_new w (.cells #[.bool m, .slice A1 N.length c1, .slice A2 D.length c2] 80)
  have K := Aside0.mk (blk_alloc e0 (.cells #[.bool false, .slice none 0 0, .slice none 0 0] 80))
  have e1 := blk_new (w.alloc (.cells #[.bool m, .slice A1 N.length c1, .slice A2 D.length c2] 80)) (.cells #[.bool false, .slice none 0 0, .slice none 0 0] 80)
  rw [World.size_alloc] at e1
  have K2 := Aside0.mk e1
  clear e0 e1
  unfold exact_number_scaled.f at h
  by_cases hp : p < 0
  · rw [if_pos hp] at h
    have hw : wrap64 (-p) = -p := by unfold wrap64; omega
    rw [hw] at h
    clear hw
    obtain ⟨t, h1, h⟩ := Option.bind_eq_some_iff.1 h
    obtain ⟨r, h2, h⟩ := Option.bind_eq_some_iff.1 h
    simp only [Option.some.injEq, Prod.mk.injEq] at h
    obtain ⟨rfl, rfl, rfl⟩ := h
    have H1 := Aside0.mk h1
    have H2 := Aside0.mk h2
    clear h1 h2
    go_enter Tryz.func52, Tryz.ntmps52
    go_wp2_with (fail)
    have hwn : IntKind.i64.wrap (-p) = -p := IntWalk.i64_in _ (by omega)
    go_region_with (first
      | (go_at_call 54; (with_reducible refine (ten_cs k (-p) t _ (gl_below hGl (bl HB.out)) H1.out).mono ?_); rintro _ w1 ⟨A3, c3, rfl, s3, hb⟩; have S3 := Aside0.mk s3; have n_ := Aside0.mk (below_step (bl HB.out) hb); have k_ := Aside0.mk (blk_below (blk_below K.out climb) hb); have k2_ := Aside0.mk (blk_below (blk_below K2.out climb) hb); have t1_ := Aside0.mk ((T1.out.up climb).up hb); have t2_ := Aside0.mk ((T2.out.up climb).up hb); have y_ := hb.size; clear HB K K2 T1 T2 s3 hb; have HB := n_; have K := k_; have K2 := k2_; have T1 := t1_; have T2 := t2_; clear n_ k_ k2_ t1_ t2_; have q0 := (blk_cell K.out 2).trans rfl)
      | (go_at_call 41; (with_reducible refine (times_cx S k D t r _ (fun j hj => Nat.lt_of_lt_of_le (HS1.out j hj) (by simpa using y_)) (gl_below hGl (bl HB.out)) H2.out (T2.out.cs.up climb) (S3.out.up climb)).mono ?_); rintro _ w2 ⟨A4, c4, rfl, s4, hb⟩; have S4 := Aside0.mk s4; have n_ := Aside0.mk (below_step (bl HB.out) hb); have k_ := Aside0.mk (blk_below (blk_below K.out climb) hb); have k2_ := Aside0.mk (blk_below (blk_below K2.out climb) hb); have t1_ := Aside0.mk ((T1.out.up climb).up hb); have t2_ := Aside0.mk ((T2.out.up climb).up hb); clear HB K K2 T1 T2 s4 hb S3; have HB := n_; have K := k_; have K2 := k2_; have T1 := t1_; have T2 := t2_; clear n_ k_ k2_ t1_ t2_; have d0_ := (blk_cell K.out 2).trans rfl; have e0_ := blk_frozen K.out 2))
    all_goals
      obtain ⟨W2, hW⟩ : ∃ W, w2.setCell ⟨w.heap.size, 2, none⟩ (.slice A4 r.length c4) = W := ⟨_, rfl⟩
      rw [hW]
      have k_ := Aside0.mk (show W2.heap[w.heap.size]? = some (.cells #[Value.bool m, .slice A1 N.length c1, .slice A4 r.length c4] 80 (0, 0)) by rw [← hW]; exact blk_set K.out 2 (.slice A4 r.length c4))
      have k2_ := Aside0.mk (show W2.heap[w.heap.size + 1]? = some (.cells #[.bool false, .slice none 0 0, .slice none 0 0] 80 (0, 0)) by rw [← hW]; exact blk_far K2.out (p := ⟨w.heap.size, 2, none⟩) (Nat.succ_ne_self _) _)
      have n_ := Aside0.mk (show Below w.heap.size w W2 by rw [← hW]; exact below_set HB.out (Nat.le_refl _))
      have t1_ := Aside0.mk (show Cx S W2 _ _ _ by rw [← hW]; exact T1.out.set (p := ⟨w.heap.size, 2, none⟩) hSa _)
      have t2_ := Aside0.mk (show Cx S W2 _ _ _ by rw [← hW]; exact T2.out.set (p := ⟨w.heap.size, 2, none⟩) hSa _)
      have s4_ := Aside0.mk (show Cx S W2 _ _ _ by rw [← hW]; exact S4.out.set (p := ⟨w.heap.size, 2, none⟩) hSa _)
      clear hW K K2 HB T1 T2 S4 d0_ e0_ q0 y_
      have c0_ := (blk_cell k_.out 0).trans rfl; have c1_ := (blk_cell k_.out 1).trans rfl; have c2_ := (blk_cell k_.out 2).trans rfl
      have f0_ := blk_frozen k2_.out 0; have f1_ := blk_frozen (blk_set k2_.out 0 (.bool m)) 1; have f2_ := blk_frozen (blk_set (blk_set k2_.out 0 (.bool m)) 1 (.slice A1 N.length c1)) 2
      have g0_ := (blk_cell k2_.out 0).trans rfl; have g1_ := (blk_cell (blk_set k2_.out 0 (.bool m)) 1).trans rfl; have g2_ := (blk_cell (blk_set (blk_set k2_.out 0 (.bool m)) 1 (.slice A1 N.length c1)) 2).trans rfl
      go_wp2
      refine bodyPost_ret (results_cell_row rfl _ _ (w.heap.size + 1) 80 _ (0, 0) _ rfl (blk_set (blk_set (blk_set k2_.out 0 (.bool m)) 1 (.slice A1 N.length c1)) 2 (.slice A4 r.length c4)) Tryz.underlying80 rfl (by kernel_rfl)) rfl ?_
      refine ⟨_, _, _, _, rfl, ?_, ?_, below_set (below_set (below_set n_.out (Nat.le_succ _)) (Nat.le_succ _)) (Nat.le_succ _)⟩
      · exact (((t1_.out.set (p := ⟨w.heap.size + 1, 0, none⟩) hSb _).set (p := ⟨w.heap.size + 1, 1, none⟩) hSb _).set (p := ⟨w.heap.size + 1, 2, none⟩) hSb _).cs
      · exact (((s4_.out.set (p := ⟨w.heap.size + 1, 0, none⟩) hSb _).set (p := ⟨w.heap.size + 1, 1, none⟩) hSb _).set (p := ⟨w.heap.size + 1, 2, none⟩) hSb _).cs
  · rw [if_neg hp] at h
    obtain ⟨t, h1, h⟩ := Option.bind_eq_some_iff.1 h
    obtain ⟨r, h2, h⟩ := Option.bind_eq_some_iff.1 h
    simp only [Option.some.injEq, Prod.mk.injEq] at h
    obtain ⟨rfl, rfl, rfl⟩ := h
    have H1 := Aside0.mk h1
    have H2 := Aside0.mk h2
    clear h1 h2
    go_enter Tryz.func52, Tryz.ntmps52
    go_wp2_with (fail)
    go_region_with (first
      | (go_at_call 54; (with_reducible refine (ten_cs k p t _ (gl_below hGl (bl HB.out)) H1.out).mono ?_); rintro _ w1 ⟨A3, c3, rfl, s3, hb⟩; have S3 := Aside0.mk s3; have n_ := Aside0.mk (below_step (bl HB.out) hb); have k_ := Aside0.mk (blk_below (blk_below K.out climb) hb); have k2_ := Aside0.mk (blk_below (blk_below K2.out climb) hb); have t1_ := Aside0.mk ((T1.out.up climb).up hb); have t2_ := Aside0.mk ((T2.out.up climb).up hb); have y_ := hb.size; clear HB K K2 T1 T2 s3 hb; have HB := n_; have K := k_; have K2 := k2_; have T1 := t1_; have T2 := t2_; clear n_ k_ k2_ t1_ t2_; have q0 := (blk_cell K.out 1).trans rfl)
      | (go_at_call 41; (with_reducible refine (times_cx S k N t r _ (fun j hj => Nat.lt_of_lt_of_le (HS1.out j hj) (by simpa using y_)) (gl_below hGl (bl HB.out)) H2.out (T1.out.cs.up climb) (S3.out.up climb)).mono ?_); rintro _ w2 ⟨A4, c4, rfl, s4, hb⟩; have S4 := Aside0.mk s4; have n_ := Aside0.mk (below_step (bl HB.out) hb); have k_ := Aside0.mk (blk_below (blk_below K.out climb) hb); have k2_ := Aside0.mk (blk_below (blk_below K2.out climb) hb); have t1_ := Aside0.mk ((T1.out.up climb).up hb); have t2_ := Aside0.mk ((T2.out.up climb).up hb); clear HB K K2 T1 T2 s4 hb S3; have HB := n_; have K := k_; have K2 := k2_; have T1 := t1_; have T2 := t2_; clear n_ k_ k2_ t1_ t2_; have d0_ := (blk_cell K.out 1).trans rfl; have e0_ := blk_frozen K.out 1))
    all_goals
      obtain ⟨W2, hW⟩ : ∃ W, w2.setCell ⟨w.heap.size, 1, none⟩ (.slice A4 r.length c4) = W := ⟨_, rfl⟩
      rw [hW]
      have k_ := Aside0.mk (show W2.heap[w.heap.size]? = some (.cells #[Value.bool m, .slice A4 r.length c4, .slice A2 D.length c2] 80 (0, 0)) by rw [← hW]; exact blk_set K.out 1 (.slice A4 r.length c4))
      have k2_ := Aside0.mk (show W2.heap[w.heap.size + 1]? = some (.cells #[.bool false, .slice none 0 0, .slice none 0 0] 80 (0, 0)) by rw [← hW]; exact blk_far K2.out (p := ⟨w.heap.size, 1, none⟩) (Nat.succ_ne_self _) _)
      have n_ := Aside0.mk (show Below w.heap.size w W2 by rw [← hW]; exact below_set HB.out (Nat.le_refl _))
      have t1_ := Aside0.mk (show Cx S W2 _ _ _ by rw [← hW]; exact T1.out.set (p := ⟨w.heap.size, 1, none⟩) hSa _)
      have t2_ := Aside0.mk (show Cx S W2 _ _ _ by rw [← hW]; exact T2.out.set (p := ⟨w.heap.size, 1, none⟩) hSa _)
      have s4_ := Aside0.mk (show Cx S W2 _ _ _ by rw [← hW]; exact S4.out.set (p := ⟨w.heap.size, 1, none⟩) hSa _)
      clear hW K K2 HB T1 T2 S4 d0_ e0_ q0 y_
      have c0_ := (blk_cell k_.out 0).trans rfl; have c1_ := (blk_cell k_.out 1).trans rfl; have c2_ := (blk_cell k_.out 2).trans rfl
      have f0_ := blk_frozen k2_.out 0; have f1_ := blk_frozen (blk_set k2_.out 0 (.bool m)) 1; have f2_ := blk_frozen (blk_set (blk_set k2_.out 0 (.bool m)) 1 (.slice A4 r.length c4)) 2
      have g0_ := (blk_cell k2_.out 0).trans rfl; have g1_ := (blk_cell (blk_set k2_.out 0 (.bool m)) 1).trans rfl; have g2_ := (blk_cell (blk_set (blk_set k2_.out 0 (.bool m)) 1 (.slice A4 r.length c4)) 2).trans rfl
      go_wp2
      refine bodyPost_ret (results_cell_row rfl _ _ (w.heap.size + 1) 80 _ (0, 0) _ rfl (blk_set (blk_set (blk_set k2_.out 0 (.bool m)) 1 (.slice A4 r.length c4)) 2 (.slice A2 D.length c2)) Tryz.underlying80 rfl (by kernel_rfl)) rfl ?_
      refine ⟨_, _, _, _, rfl, ?_, ?_, below_set (below_set (below_set n_.out (Nat.le_succ _)) (Nat.le_succ _)) (Nat.le_succ _)⟩
      · exact (((s4_.out.set (p := ⟨w.heap.size + 1, 0, none⟩) hSb _).set (p := ⟨w.heap.size + 1, 1, none⟩) hSb _).set (p := ⟨w.heap.size + 1, 2, none⟩) hSb _).cs
      · exact (((t2_.out.set (p := ⟨w.heap.size + 1, 0, none⟩) hSb _).set (p := ⟨w.heap.size + 1, 1, none⟩) hSb _).set (p := ⟨w.heap.size + 1, 2, none⟩) hSb _).cs
end Go.Proofs.YtefhcgnamfnkbaaGreatDoor.Pr
