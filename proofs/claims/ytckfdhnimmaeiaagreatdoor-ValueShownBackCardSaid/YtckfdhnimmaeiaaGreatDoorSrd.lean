/- number.scaled, walked by hand over digits that are only read. number.rounded, walked by hand over digits that are only read. -/
import Derived.Test.YtckfdhnimmaeiaaGreatDoorDs
import Derived.Deep.RegionHeld3
import Derived.IntWalk
namespace Go.Proofs.YtckfdhnimmaeiaaGreatDoor.Pr
open Go.RowKit Go.Proofs.YtckfdhnimmaeiaaGreatDoorW.PrintWords Go.Proofs.YtckfdhnimmaeiaaGreatDoorW.PrintLast Go.Proofs.YtckfdhnimmaeiaaGreatDoorW.PrintMore
def exact_number_scaled.f (k : Nat) (m : Bool) (N D : List Int) (p : Int) : Option (Bool × List Int × List Int) := if p < 0 then (exact_ten.f k (wrap64 (-p))).bind fun t => (exact_nat_times.f k D t).bind fun r => some (m, N, r) else (exact_ten.f k p).bind fun t => (exact_nat_times.f k N t).bind fun r => some (m, r, D)
/-- Digits that lie in no block of S. -/
def Cx (S : Nat → Prop) (w : World) (A : Option Addr) (c : Nat) (l : List Int) : Prop := Kd.V (Kd.int .u32) 69 w 0 (fun k => ¬ S k) (.slice A l.length c) l
theorem Cx.cs {S : Nat → Prop} {w : World} {A : Option Addr} {c : Nat} {l : List Int} (h : Cx S w A c l) : Cs w A c l := Kd.V_mono h (fun _ _ => trivial)
theorem Cx.up {S : Nat → Prop} {w w' : World} {A : Option Addr} {c : Nat} {l : List Int} (h : Cx S w A c l) (k : Below w.heap.size w w') : Cx S w' A c l := Kd.V_below h k
theorem Cx.set {S : Nat → Prop} {w : World} {A : Option Addr} {c : Nat} {l : List Int} (h : Cx S w A c l) {p : Addr} (hp : S p.block) (u : Value) : Cx S (w.setCell p u) A c l := Kd.V_far h (fun k hk e => hk (by rw [e]; exact hp)) u
/-- Digits are older than what is made behind them. -/
theorem Cs.cx {w : World} {A : Option Addr} {c : Nat} {l : List Int} (h : Cs w A c l) (S : Nat → Prop) (hS : ∀ k, S k → w.heap.size ≤ k) : Cx S w A c l :=
  Kd.V_map h (fun _ hf => Kd.F_mono (Kd.F_bound hf) (fun k hk hs => by have := hS k hs; have := hk.2; omega))
theorem times_cx (S : Nat → Prop) (k : Nat) (l l' r : List Int) (W : World) (hS : ∀ k, S k → k < W.heap.size) (hGl : Gl W) (h : exact_nat_times.f k l l' = some r) {A A' : Option Addr} {c c' : Nat} (s : Cs W A c l) (s' : Cs W A' c' l') :
    Calls Tryz.prog 36 #[.slice A l.length c, .slice A' l'.length c'] W fun x w' => ∃ A1 c1, x = .returned (.slice A1 r.length c1) ∧ Cx S w' A1 c1 r ∧ Below W.heap.size W w' := by
  refine (exact_nat_times.calls k A c l A' c' l' r W s.reads s.len s'.reads s'.len hGl h).mono ?_
  rintro _ w' ⟨v1, rfl, h1, hb⟩
  obtain ⟨A1, c1, rfl⟩ := Kd.V_slice h1
  exact ⟨A1, c1, rfl, Kd.V_mono h1 (fun k hk hs => by have := hS k hs; omega), hb⟩
set_option maxHeartbeats 2000000 in
set_option maxRecDepth 100000 in
theorem scaled_cs (k : Nat) (m : Bool) (N D : List Int) (p : Int) (M : Bool) (P R : List Int) (w : World) (hGl : Gl w) (hp0 : -1000 ≤ p) (hp1 : p ≤ 1000) (h : exact_number_scaled.f k m N D p = some (M, P, R)) {A1 A2 : Option Addr} {c1 c2 : Nat} (s1 : Cs w A1 c1 N) (s2 : Cs w A2 c2 D) :
    Calls Tryz.prog 110 #[.agg #[.bool m, .slice A1 N.length c1, .slice A2 D.length c2], .int .i64 p] w fun x w' => ∃ A3 c3 A4 c4, x = .returned (.agg #[.bool M, .slice A3 P.length c3, .slice A4 R.length c4]) ∧ Cs w' A3 c3 P ∧ Cs w' A4 c4 R ∧ Below w.heap.size w w' := by
  have hu80 := Tryz.underlying64
  have hu78 := Tryz.underlying62
  have HB := Aside0.mk (Below.refl w.heap.size w)
  obtain ⟨S, hS⟩ : ∃ S : Nat → Prop, S = fun k => k = w.heap.size ∨ k = w.heap.size + 1 := ⟨_, rfl⟩
  have hS0 : ∀ k, S k → w.heap.size ≤ k := by rw [hS]; intro k hk; rcases hk with h | h <;> omega
  have hSa : S w.heap.size := by rw [hS]; exact Or.inl rfl
  have hSb : S (w.heap.size + 1) := by rw [hS]; exact Or.inr rfl
  have hS1 : ∀ k, S k → k < w.heap.size + 1 + 1 := by rw [hS]; intro k hk; rcases hk with h | h <;> omega
  have T1 := Aside0.mk (s1.cx S hS0)
  have T2 := Aside0.mk (s2.cx S hS0)
  have HS1 := Aside0.mk hS1
  clear s1 s2 hS hS0 hS1
  have e0 := blk_new w (.cells #[.bool m, .slice A1 N.length c1, .slice A2 D.length c2] 64)
  have K := Aside0.mk (blk_alloc e0 (.cells #[.bool false, .slice none 0 0, .slice none 0 0] 64))
  have e1 := blk_new (w.alloc (.cells #[.bool m, .slice A1 N.length c1, .slice A2 D.length c2] 64)) (.cells #[.bool false, .slice none 0 0, .slice none 0 0] 64)
  rw [World.size_alloc] at e1
  have K2 := Aside0.mk e1
  clear e0 e1
  unfold exact_number_scaled.f at h
  by_cases hp : p < 0
  · rw [if_pos hp] at h
    have hw : wrap64 (-p) = -p := by unfold wrap64; omega
    rw [hw] at h
    clear hw
    obtain ⟨t, h1, h⟩ := Option.bind_eq_some_iff.1 h
    obtain ⟨r, h2, h⟩ := Option.bind_eq_some_iff.1 h
    simp only [Option.some.injEq, Prod.mk.injEq] at h
    obtain ⟨rfl, rfl, rfl⟩ := h
    have H1 := Aside0.mk h1
    have H2 := Aside0.mk h2
    clear h1 h2
    go_enter Tryz.func110, Tryz.ntmps110
    go_wp2_with (fail)
    have hwn : IntKind.i64.wrap (-p) = -p := IntWalk.i64_in _ (by omega)
    go_region_with (first
      | (go_at_call 37; (with_reducible refine (ten_cs k (-p) t _ (gl_below hGl (bl HB.out)) H1.out).mono ?_); rintro _ w1 ⟨A3, c3, rfl, s3, hb⟩; have S3 := Aside0.mk s3; have n_ := Aside0.mk (below_step (bl HB.out) hb); have k_ := Aside0.mk (blk_below (blk_below K.out climb) hb); have k2_ := Aside0.mk (blk_below (blk_below K2.out climb) hb); have t1_ := Aside0.mk ((T1.out.up climb).up hb); have t2_ := Aside0.mk ((T2.out.up climb).up hb); have y_ := hb.size; clear HB K K2 T1 T2 s3 hb; have HB := n_; have K := k_; have K2 := k2_; have T1 := t1_; have T2 := t2_; clear n_ k_ k2_ t1_ t2_; have q0 := (blk_cell K.out 2).trans rfl)
      | (go_at_call 36; (with_reducible refine (times_cx S k D t r _ (fun j hj => Nat.lt_of_lt_of_le (HS1.out j hj) (by simpa using y_)) (gl_below hGl (bl HB.out)) H2.out (T2.out.cs.up climb) (S3.out.up climb)).mono ?_); rintro _ w2 ⟨A4, c4, rfl, s4, hb⟩; have S4 := Aside0.mk s4; have n_ := Aside0.mk (below_step (bl HB.out) hb); have k_ := Aside0.mk (blk_below (blk_below K.out climb) hb); have k2_ := Aside0.mk (blk_below (blk_below K2.out climb) hb); have t1_ := Aside0.mk ((T1.out.up climb).up hb); have t2_ := Aside0.mk ((T2.out.up climb).up hb); clear HB K K2 T1 T2 s4 hb S3; have HB := n_; have K := k_; have K2 := k2_; have T1 := t1_; have T2 := t2_; clear n_ k_ k2_ t1_ t2_; have d0_ := (blk_cell K.out 2).trans rfl; have e0_ := blk_frozen K.out 2))
    all_goals
      obtain ⟨W2, hW⟩ : ∃ W, w2.setCell ⟨w.heap.size, 2, none⟩ (.slice A4 r.length c4) = W := ⟨_, rfl⟩
      rw [hW]
      have k_ := Aside0.mk (show W2.heap[w.heap.size]? = some (.cells #[Value.bool m, .slice A1 N.length c1, .slice A4 r.length c4] 64 (0, 0)) by rw [← hW]; exact blk_set K.out 2 (.slice A4 r.length c4))
      have k2_ := Aside0.mk (show W2.heap[w.heap.size + 1]? = some (.cells #[.bool false, .slice none 0 0, .slice none 0 0] 64 (0, 0)) by rw [← hW]; exact blk_far K2.out (p := ⟨w.heap.size, 2, none⟩) (Nat.succ_ne_self _) _)
      have n_ := Aside0.mk (show Below w.heap.size w W2 by rw [← hW]; exact below_set HB.out (Nat.le_refl _))
      have t1_ := Aside0.mk (show Cx S W2 _ _ _ by rw [← hW]; exact T1.out.set (p := ⟨w.heap.size, 2, none⟩) hSa _)
      have t2_ := Aside0.mk (show Cx S W2 _ _ _ by rw [← hW]; exact T2.out.set (p := ⟨w.heap.size, 2, none⟩) hSa _)
      have s4_ := Aside0.mk (show Cx S W2 _ _ _ by rw [← hW]; exact S4.out.set (p := ⟨w.heap.size, 2, none⟩) hSa _)
      clear hW K K2 HB T1 T2 S4 d0_ e0_ q0 y_
      have c0_ := (blk_cell k_.out 0).trans rfl; have c1_ := (blk_cell k_.out 1).trans rfl; have c2_ := (blk_cell k_.out 2).trans rfl
      have f0_ := blk_frozen k2_.out 0; have f1_ := blk_frozen (blk_set k2_.out 0 (.bool m)) 1; have f2_ := blk_frozen (blk_set (blk_set k2_.out 0 (.bool m)) 1 (.slice A1 N.length c1)) 2
      have g0_ := (blk_cell k2_.out 0).trans rfl; have g1_ := (blk_cell (blk_set k2_.out 0 (.bool m)) 1).trans rfl; have g2_ := (blk_cell (blk_set (blk_set k2_.out 0 (.bool m)) 1 (.slice A1 N.length c1)) 2).trans rfl
      go_wp2
      refine bodyPost_ret (results_cell_row rfl _ _ (w.heap.size + 1) 64 _ (0, 0) _ rfl (blk_set (blk_set (blk_set k2_.out 0 (.bool m)) 1 (.slice A1 N.length c1)) 2 (.slice A4 r.length c4)) Tryz.underlying64 rfl (by kernel_rfl)) rfl ?_
      refine ⟨_, _, _, _, rfl, ?_, ?_, below_set (below_set (below_set n_.out (Nat.le_succ _)) (Nat.le_succ _)) (Nat.le_succ _)⟩
      · exact (((t1_.out.set (p := ⟨w.heap.size + 1, 0, none⟩) hSb _).set (p := ⟨w.heap.size + 1, 1, none⟩) hSb _).set (p := ⟨w.heap.size + 1, 2, none⟩) hSb _).cs
      · exact (((s4_.out.set (p := ⟨w.heap.size + 1, 0, none⟩) hSb _).set (p := ⟨w.heap.size + 1, 1, none⟩) hSb _).set (p := ⟨w.heap.size + 1, 2, none⟩) hSb _).cs
  · rw [if_neg hp] at h
    obtain ⟨t, h1, h⟩ := Option.bind_eq_some_iff.1 h
    obtain ⟨r, h2, h⟩ := Option.bind_eq_some_iff.1 h
    simp only [Option.some.injEq, Prod.mk.injEq] at h
    obtain ⟨rfl, rfl, rfl⟩ := h
    have H1 := Aside0.mk h1
    have H2 := Aside0.mk h2
    clear h1 h2
    go_enter Tryz.func110, Tryz.ntmps110
    go_wp2_with (fail)
    go_region_with (first
      | (go_at_call 37; (with_reducible refine (ten_cs k p t _ (gl_below hGl (bl HB.out)) H1.out).mono ?_); rintro _ w1 ⟨A3, c3, rfl, s3, hb⟩; have S3 := Aside0.mk s3; have n_ := Aside0.mk (below_step (bl HB.out) hb); have k_ := Aside0.mk (blk_below (blk_below K.out climb) hb); have k2_ := Aside0.mk (blk_below (blk_below K2.out climb) hb); have t1_ := Aside0.mk ((T1.out.up climb).up hb); have t2_ := Aside0.mk ((T2.out.up climb).up hb); have y_ := hb.size; clear HB K K2 T1 T2 s3 hb; have HB := n_; have K := k_; have K2 := k2_; have T1 := t1_; have T2 := t2_; clear n_ k_ k2_ t1_ t2_; have q0 := (blk_cell K.out 1).trans rfl)
      | (go_at_call 36; (with_reducible refine (times_cx S k N t r _ (fun j hj => Nat.lt_of_lt_of_le (HS1.out j hj) (by simpa using y_)) (gl_below hGl (bl HB.out)) H2.out (T1.out.cs.up climb) (S3.out.up climb)).mono ?_); rintro _ w2 ⟨A4, c4, rfl, s4, hb⟩; have S4 := Aside0.mk s4; have n_ := Aside0.mk (below_step (bl HB.out) hb); have k_ := Aside0.mk (blk_below (blk_below K.out climb) hb); have k2_ := Aside0.mk (blk_below (blk_below K2.out climb) hb); have t1_ := Aside0.mk ((T1.out.up climb).up hb); have t2_ := Aside0.mk ((T2.out.up climb).up hb); clear HB K K2 T1 T2 s4 hb S3; have HB := n_; have K := k_; have K2 := k2_; have T1 := t1_; have T2 := t2_; clear n_ k_ k2_ t1_ t2_; have d0_ := (blk_cell K.out 1).trans rfl; have e0_ := blk_frozen K.out 1))
    all_goals
      obtain ⟨W2, hW⟩ : ∃ W, w2.setCell ⟨w.heap.size, 1, none⟩ (.slice A4 r.length c4) = W := ⟨_, rfl⟩
      rw [hW]
      have k_ := Aside0.mk (show W2.heap[w.heap.size]? = some (.cells #[Value.bool m, .slice A4 r.length c4, .slice A2 D.length c2] 64 (0, 0)) by rw [← hW]; exact blk_set K.out 1 (.slice A4 r.length c4))
      have k2_ := Aside0.mk (show W2.heap[w.heap.size + 1]? = some (.cells #[.bool false, .slice none 0 0, .slice none 0 0] 64 (0, 0)) by rw [← hW]; exact blk_far K2.out (p := ⟨w.heap.size, 1, none⟩) (Nat.succ_ne_self _) _)
      have n_ := Aside0.mk (show Below w.heap.size w W2 by rw [← hW]; exact below_set HB.out (Nat.le_refl _))
      have t1_ := Aside0.mk (show Cx S W2 _ _ _ by rw [← hW]; exact T1.out.set (p := ⟨w.heap.size, 1, none⟩) hSa _)
      have t2_ := Aside0.mk (show Cx S W2 _ _ _ by rw [← hW]; exact T2.out.set (p := ⟨w.heap.size, 1, none⟩) hSa _)
      have s4_ := Aside0.mk (show Cx S W2 _ _ _ by rw [← hW]; exact S4.out.set (p := ⟨w.heap.size, 1, none⟩) hSa _)
      clear hW K K2 HB T1 T2 S4 d0_ e0_ q0 y_
      have c0_ := (blk_cell k_.out 0).trans rfl; have c1_ := (blk_cell k_.out 1).trans rfl; have c2_ := (blk_cell k_.out 2).trans rfl
      have f0_ := blk_frozen k2_.out 0; have f1_ := blk_frozen (blk_set k2_.out 0 (.bool m)) 1; have f2_ := blk_frozen (blk_set (blk_set k2_.out 0 (.bool m)) 1 (.slice A4 r.length c4)) 2
      have g0_ := (blk_cell k2_.out 0).trans rfl; have g1_ := (blk_cell (blk_set k2_.out 0 (.bool m)) 1).trans rfl; have g2_ := (blk_cell (blk_set (blk_set k2_.out 0 (.bool m)) 1 (.slice A4 r.length c4)) 2).trans rfl
      go_wp2
      refine bodyPost_ret (results_cell_row rfl _ _ (w.heap.size + 1) 64 _ (0, 0) _ rfl (blk_set (blk_set (blk_set k2_.out 0 (.bool m)) 1 (.slice A4 r.length c4)) 2 (.slice A2 D.length c2)) Tryz.underlying64 rfl (by kernel_rfl)) rfl ?_
      refine ⟨_, _, _, _, rfl, ?_, ?_, below_set (below_set (below_set n_.out (Nat.le_succ _)) (Nat.le_succ _)) (Nat.le_succ _)⟩
      · exact (((s4_.out.set (p := ⟨w.heap.size + 1, 0, none⟩) hSb _).set (p := ⟨w.heap.size + 1, 1, none⟩) hSb _).set (p := ⟨w.heap.size + 1, 2, none⟩) hSb _).cs
      · exact (((t2_.out.set (p := ⟨w.heap.size + 1, 0, none⟩) hSb _).set (p := ⟨w.heap.size + 1, 1, none⟩) hSb _).set (p := ⟨w.heap.size + 1, 2, none⟩) hSb _).cs
end Go.Proofs.YtckfdhnimmaeiaaGreatDoor.Pr
namespace Go.Proofs.YtckfdhnimmaeiaaGreatDoor.Pr
open Go.RowKit Go.Proofs.YtckfdhnimmaeiaaGreatDoorW.PrintWords Go.Proofs.YtckfdhnimmaeiaaGreatDoorW.PrintLast Go.Proofs.YtckfdhnimmaeiaaGreatDoorW.PrintMore
theorem divide_cx (S : Nat → Prop) (k : Nat) (l l' q r : List Int) (W : World) (hS : ∀ k, S k → k < W.heap.size) (hGl : Gl W) (h : exact_divide.f k l l' = some (q, r)) {A A' : Option Addr} {c c' : Nat} (s : Cs W A c l) (s' : Cs W A' c' l') :
    Calls Tryz.prog 33 #[.slice A l.length c, .slice A' l'.length c'] W fun x w' => ∃ A1 c1 A2 c2, x = .returned (.tuple #[.slice A1 q.length c1, .slice A2 r.length c2]) ∧ Cx S w' A1 c1 q ∧ Cs w' A2 c2 r ∧ Below W.heap.size W w' := by
  refine (exact_divide.calls k A c l A' c' l' q r W s.reads s.len s'.reads s'.len hGl h).mono ?_
  rintro _ w' ⟨v1, v2, rfl, h1, h2, hb⟩
  obtain ⟨A1, c1, rfl⟩ := Kd.V_slice h1
  obtain ⟨A2, c2, rfl, s2⟩ := Cs.ofV h2
  exact ⟨A1, c1, A2, c2, rfl, Kd.V_mono h1 (fun k hk hs => by have := hS k hs; omega), s2, hb⟩
theorem lit_cx (S : Nat → Prop) (W : World) (n : Int) (hS : ∀ k, S k → k < W.heap.size) : Cx S (W.alloc (.cells #[.int .u32 n] 69)) (some ⟨W.heap.size, 0, none⟩) 1 [n] := by
  have hr : Kd.R (Kd.int .u32) 69 (W.alloc (.cells #[.int .u32 n] 69)) W.heap.size (fun k => ¬ S k) (.slice (some ⟨W.heap.size, 0, none⟩) 1 1) [n] := by
    refine ⟨fun k hk hs => ?_, [.int .u32 n], ?_, ?_⟩
    · have h1 : W.heap.size = k := by simpa [Value.ownBlock] using hk
      have h2 := hS k hs
      omega
    · have h2 := World.ownsRow_lit (base := W.heap.size) (e := 69) (size := 1) W #[.int .u32 n] 1 (Nat.le_refl _) (by simp [maxLen]) (by simp)
      have h3 : (Kd.int .u32).sz = 1 := rfl
      rw [h3]
      simpa using h2
    · exact Reps.one rfl (Reps.none _ _)
  exact Kd.R_V (base' := 0) hr
def exact_number_rounded.f (k : Nat) (m : Bool) (N D : List Int) : Option (Bool × List Int × List Int) := (exact_nat_plus.f k N N).bind fun a => (exact_nat_plus.f k a D).bind fun b => (exact_nat_plus.f k D D).bind fun c => (exact_divide.f k b c).bind fun q => some (m, q.1, [1])
set_option maxHeartbeats 2000000 in
set_option maxRecDepth 100000 in
theorem rounded_cs (k : Nat) (m : Bool) (N D : List Int) (M : Bool) (P R : List Int) (w : World) (hGl : Gl w) (h : exact_number_rounded.f k m N D = some (M, P, R)) {A1 A2 : Option Addr} {c1 c2 : Nat} (s1 : Cs w A1 c1 N) (s2 : Cs w A2 c2 D) :
    Calls Tryz.prog 111 #[.agg #[.bool m, .slice A1 N.length c1, .slice A2 D.length c2]] w fun x w' => ∃ A3 c3 A4 c4, x = .returned (.agg #[.bool M, .slice A3 P.length c3, .slice A4 R.length c4]) ∧ Cs w' A3 c3 P ∧ Cs w' A4 c4 R ∧ Below w.heap.size w w' := by
  have hu80 := Tryz.underlying64
  have hu78 := Tryz.underlying62
  have HB := Aside0.mk (Below.refl w.heap.size w)
  have S1 := Aside0.mk s1
  have S2 := Aside0.mk s2
  clear s1 s2
  have e0 := blk_new w (.cells #[.bool m, .slice A1 N.length c1, .slice A2 D.length c2] 64)
  have K := Aside0.mk (blk_alloc e0 (.cells #[.bool false, .slice none 0 0, .slice none 0 0] 64))
  have e1 := blk_new (w.alloc (.cells #[.bool m, .slice A1 N.length c1, .slice A2 D.length c2] 64)) (.cells #[.bool false, .slice none 0 0, .slice none 0 0] 64)
  rw [World.size_alloc] at e1
  have K2 := Aside0.mk e1
  clear e0 e1
  obtain ⟨a, h1, h⟩ := Option.bind_eq_some_iff.1 h
  obtain ⟨b, h2, h⟩ := Option.bind_eq_some_iff.1 h
  obtain ⟨c, h3, h⟩ := Option.bind_eq_some_iff.1 h
  obtain ⟨⟨q, r⟩, h4, h⟩ := Option.bind_eq_some_iff.1 h
  simp only [Option.some.injEq, Prod.mk.injEq] at h
  obtain ⟨rfl, rfl, rfl⟩ := h
  have H1 := Aside0.mk h1
  have H2 := Aside0.mk h2
  have H3 := Aside0.mk h3
  have H4 := Aside0.mk h4
  clear h1 h2 h3 h4
  go_enter Tryz.func111, Tryz.ntmps111
  go_wp2_with (fail)
  go_region_held3 (fun w' => w'.cell? ⟨w.heap.size, 1, none⟩ = some (.slice A1 N.length c1) ∧ w'.cell? ⟨w.heap.size, 2, none⟩ = some (.slice A2 D.length c2)) (exact ⟨(blk_cell (blk_below K.out climb) 1).trans rfl, (blk_cell (blk_below K.out climb) 2).trans rfl⟩)
    (first
    | (go_at_call 109; (with_reducible refine (plus_cs k N N a _ (gl_below hGl (bl HB.out)) H1.out (S1.out.up climb) (S1.out.up climb)).mono ?_); rintro _ w1 ⟨A5, c5, rfl, s5, hb⟩; have S5n := Aside0.mk (s5); have HBx := Aside0.mk (below_step (bl HB.out) hb); have Kx := Aside0.mk (blk_below (blk_below K.out climb) hb); have K2x := Aside0.mk (blk_below (blk_below K2.out climb) hb); have S1x := Aside0.mk ((S1.out.up climb).up hb); have S2x := Aside0.mk ((S2.out.up climb).up hb); clear HB K K2 S1 S2 hb s5; have HB := HBx; have K := Kx; have K2 := K2x; have S1 := S1x; have S2 := S2x; have S5 := S5n; clear HBx Kx K2x S1x S2x S5n)
    | (go_at_call 109; (with_reducible refine (plus_cs k a D b _ (gl_below hGl (bl HB.out)) H2.out (S5.out.up climb) (S2.out.up climb)).mono ?_); rintro _ w2 ⟨A6, c6, rfl, s6, hb⟩; have S6n := Aside0.mk (s6); have HBx := Aside0.mk (below_step (bl HB.out) hb); have Kx := Aside0.mk (blk_below (blk_below K.out climb) hb); have K2x := Aside0.mk (blk_below (blk_below K2.out climb) hb); have S1x := Aside0.mk ((S1.out.up climb).up hb); have S2x := Aside0.mk ((S2.out.up climb).up hb); clear HB K K2 S1 S2 hb s6 S5; have HB := HBx; have K := Kx; have K2 := K2x; have S1 := S1x; have S2 := S2x; have S6 := S6n; clear HBx Kx K2x S1x S2x S6n)
    | (go_at_call 109; (with_reducible refine (plus_cs k D D c _ (gl_below hGl (bl HB.out)) H3.out (S2.out.up climb) (S2.out.up climb)).mono ?_); rintro _ w3 ⟨A7, c7, rfl, s7, hb⟩; have S7n := Aside0.mk (s7); have HBx := Aside0.mk (below_step (bl HB.out) hb); have Kx := Aside0.mk (blk_below (blk_below K.out climb) hb); have K2x := Aside0.mk (blk_below (blk_below K2.out climb) hb); have S1x := Aside0.mk ((S1.out.up climb).up hb); have S2x := Aside0.mk ((S2.out.up climb).up hb); have S6x := Aside0.mk ((S6.out.up climb).up hb); clear HB K K2 S1 S2 S6 hb s7; have HB := HBx; have K := Kx; have K2 := K2x; have S1 := S1x; have S2 := S2x; have S6 := S6x; have S7 := S7n; clear HBx Kx K2x S1x S2x S6x S7n)
    | (go_at_call 33; (with_reducible refine (divide_cx (fun j => j = w.heap.size + 1) k b c q r _ (fun j hj => hj ▸ blk_lt (blk_below K2.out climb)) (gl_below hGl (bl HB.out)) H4.out (S6.out.up climb) (S7.out.up climb)).mono ?_); rintro _ w4 ⟨A8, c8, A9, c9, rfl, s8, s9, hb⟩; have S8n := Aside0.mk (s8); have HBx := Aside0.mk (below_step (bl HB.out) hb); have Kx := Aside0.mk (blk_below (blk_below K.out climb) hb); have K2x := Aside0.mk (blk_below (blk_below K2.out climb) hb); have S1x := Aside0.mk ((S1.out.up climb).up hb); have S2x := Aside0.mk ((S2.out.up climb).up hb); clear HB K K2 S1 S2 hb s8 s9 S6 S7; have HB := HBx; have K := Kx; have K2 := K2x; have S1 := S1x; have S2 := S2x; have S8 := S8n; clear HBx Kx K2x S1x S2x S8n))
  have k0 := (blk_cell K.out 0).trans rfl
  have L := Aside0.mk (blk_below K2.out (climb (W' := w4.alloc (.cells #[.int .u32 1] 69))))
  have g0 := blk_frozen L.out 0; have g1 := blk_frozen (blk_set L.out 0 (.bool m)) 1; have g2 := blk_frozen (blk_set (blk_set L.out 0 (.bool m)) 1 (.slice A8 q.length c8)) 2
  have d0 := (blk_cell L.out 0).trans rfl; have d1 := (blk_cell (blk_set L.out 0 (.bool m)) 1).trans rfl; have d2 := (blk_cell (blk_set (blk_set L.out 0 (.bool m)) 1 (.slice A8 q.length c8)) 2).trans rfl
  have T8 := Aside0.mk (S8.out.up (climb (W' := w4.alloc (.cells #[.int .u32 1] 69))))
  have T9 := Aside0.mk (lit_cx (fun j => j = w.heap.size + 1) w4 1 (fun j hj => hj ▸ blk_lt K2.out))
  have TB := Aside0.mk (show Below w.heap.size w (w4.alloc (.cells #[.int .u32 1] 69)) from bl HB.out)
  clear HB K K2 S1 S2 S8
  go_wp2
  refine bodyPost_ret (results_cell_row rfl _ _ (w.heap.size + 1) 64 _ (0, 0) _ rfl (blk_set (blk_set (blk_set L.out 0 (.bool m)) 1 (.slice A8 q.length c8)) 2 (.slice (some ⟨w4.heap.size, 0, none⟩) 1 1)) Tryz.underlying64 rfl (by kernel_rfl)) rfl ?_
  refine ⟨_, _, _, _, rfl, ?_, ?_, below_set (below_set (below_set TB.out (Nat.le_succ _)) (Nat.le_succ _)) (Nat.le_succ _)⟩
  · exact (((T8.out.set (p := ⟨w.heap.size + 1, 0, none⟩) rfl _).set (p := ⟨w.heap.size + 1, 1, none⟩) rfl _).set (p := ⟨w.heap.size + 1, 2, none⟩) rfl _).cs
  · exact (((T9.out.set (p := ⟨w.heap.size + 1, 0, none⟩) rfl _).set (p := ⟨w.heap.size + 1, 1, none⟩) rfl _).set (p := ⟨w.heap.size + 1, 2, none⟩) rfl _).cs
end Go.Proofs.YtckfdhnimmaeiaaGreatDoor.Pr
