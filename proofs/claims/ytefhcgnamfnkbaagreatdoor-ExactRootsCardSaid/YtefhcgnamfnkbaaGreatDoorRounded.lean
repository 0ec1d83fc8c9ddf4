/- number.rounded, walked by hand over digits that are only read. -/
import Derived.Test.YtefhcgnamfnkbaaGreatDoorScale
import Derived.Deep.RegionHeld3
namespace Go.Proofs.YtefhcgnamfnkbaaGreatDoor.Pr
open Go.RowKit Go.Proofs.YtefhcgnamfnkbaaGreatDoorW.PrintWords Go.Proofs.YtefhcgnamfnkbaaGreatDoorW.PrintLast Go.Proofs.YtefhcgnamfnkbaaGreatDoorW.PrintMore

theorem divide_cx (S : Nat → Prop) (k : Nat) (l l' q r : List Int) (W : World) (hS : ∀ k, S k → k < W.heap.size) (hGl : Gl W) (h : exact_divide.f k l l' = some (q, r)) {A A' : Option Addr} {c c' : Nat} (s : Cs W A c l) (s' : Cs W A' c' l') :
    Calls Tryz.prog 47 #[.slice A l.length c, .slice A' l'.length c'] W fun x w' => ∃ A1 c1 A2 c2, x = .returned (.tuple #[.slice A1 q.length c1, .slice A2 r.length c2]) ∧ Cx S w' A1 c1 q ∧ Cs w' A2 c2 r ∧ Below W.heap.size W w' := by
  refine (exact_divide.calls k A c l A' c' l' q r W s.reads s.len s'.reads s'.len hGl h).mono ?_
  rintro _ w' ⟨v1, v2, rfl, h1, h2, hb⟩
  obtain ⟨A1, c1, rfl⟩ := Kd.V_slice h1
  obtain ⟨A2, c2, rfl, s2⟩ := Cs.ofV h2
  exact ⟨A1, c1, A2, c2, rfl, Kd.V_mono h1 (fun k hk hs => by have := hS k hs; omega), s2, hb⟩
theorem lit_cx (S : Nat → Prop) (W : World) (n : Int) (hS : ∀ k, S k → k < W.heap.size) : Cx S (W.alloc (.cells #[.int .u32 n] 90)) (some ⟨W.heap.size, 0, none⟩) 1 [n] := by
  have hr : Kd.R (Kd.int .u32) 90 (W.alloc (.cells #[.int .u32 n] 90)) W.heap.size (fun k => ¬ S k) (.slice (some ⟨W.heap.size, 0, none⟩) 1 1) [n] := by
    refine ⟨fun k hk hs => ?_, [.int .u32 n], ?_, ?_⟩
    · have h1 : W.heap.size = k := by simpa [Value.ownBlock] using hk
      have h2 := hS k hs
      omega
    · have h2 := World.ownsRow_lit (base := W.heap.size) (e := 90) (size := 1) W #[.int .u32 n] 1 (Nat.le_refl _) (by simp [maxLen]) (by simp)
      have h3 : (Kd.int .u32).sz = 1 := rfl
      rw [h3]
      simpa using h2
    · exact Reps.one rfl (Reps.none _ _)
  exact Kd.R_V (base' := 0) hr
def exact_number_rounded.f (k : Nat) (m : Bool) (N D : List Int) : Option (Bool × List Int × List Int) := (exact_nat_plus.f k N N).bind fun a => (exact_nat_plus.f k a D).bind fun b => (exact_nat_plus.f k D D).bind fun c => (exact_divide.f k b c).bind fun q => some (m, q.1, [1])
set_option maxHeartbeats 2000000 in
set_option maxRecDepth 100000 in
theorem rounded_cs (k : Nat) (m : Bool) (N D : List Int) (M : Bool) (P R : List Int) (w : World) (hGl : Gl w) (h : exact_number_rounded.f k m N D = some (M, P, R)) {A1 A2 : Option Addr} {c1 c2 : Nat} (s1 : Cs w A1 c1 N) (s2 : Cs w A2 c2 D) :
    Calls Tryz.prog 53 #[.agg #[.bool m, .slice A1 N.length c1, .slice A2 D.length c2]] w fun x w' => ∃ A3 c3 A4 c4, x = .returned (.agg #[.bool M, .slice A3 P.length c3, .slice A4 R.length c4]) ∧ Cs w' A3 c3 P ∧ Cs w' A4 c4 R ∧ Below w.heap.size w w' := by
  have hu80 := Tryz.underlying80
  have hu78 := Tryz.underlying78
  have HB := Aside0.mk (Below.refl w.heap.size w)
  have S1 := Aside0.mk s1
  have S2 := Aside0.mk s2
  clear s1 s2
  have e0 := blk_new w (.cells #[.bool m, .slice A1 N.length c1, .slice A2 D.length c2] 80)
  have K := Aside0.mk (blk_alloc e0 (.cells #[.bool false, .slice none 0 0, .slice none 0 0] 80))
  have e1 := blk_new (w.alloc (.cells #[.bool m, .slice A1 N.length c1, .slice A2 D.length c2] 80)) (.cells #[.bool false, .slice none 0 0, .slice none 0 0] 80)
  rw [World.size_alloc] at e1
  have K2 := Aside0.mk e1
  clear e0 e1
  obtain ⟨a, h1, h⟩ := Option.bind_eq_some_iff.1 h
  obtain ⟨b, h2, h⟩ := Option.bind_eq_some_iff.1 h
  obtain ⟨c, h3, h⟩ := Option.bind_eq_some_iff.1 h
  obtain ⟨⟨q, r⟩, h4, h⟩ := Option.bind_eq_some_iff.1 h
  simp only [Option.some.injEq, Prod.mk.injEq] at h
  obtain ⟨rfl, rfl, rfl⟩ := h
  have H1 := Aside0.mk h1
  have H2 := Aside0.mk h2
  have H3 := Aside0.mk h3
  have H4 := Aside0.mk h4
  clear h1 h2 h3 h4
  go_enter Tryz.func53, Tryz.ntmps53
  go_wp2_with (fail)
  go_region_held3 (fun w' => w'.cell? ⟨w.heap.size, 1, none⟩ = some (.slice A1 N.length c1) ∧ w'.cell? ⟨w.heap.size, 2, none⟩ = some (.slice A2 D.length c2)) (exact ⟨(blk_cell (blk_below K.out climb) 1).trans rfl, (blk_cell (blk_below K.out climb) 2).trans rfl⟩)
    (first
    | (go_at_call 48; (with_reducible refine (plus_cs k N N a _ (gl_below hGl (bl HB.out)) H1.out (S1.out.up climb) (S1.out.up climb)).mono ?_); rintro _ w1 ⟨A5, c5, rfl, s5, hb⟩; have S5n := Aside0.mk (s5); have HBx := Aside0.mk (below_step (bl HB.out) hb); have Kx := Aside0.mk (blk_below (blk_below K.out climb) hb); have K2x := Aside0.mk (blk_below (blk_below K2.out climb) hb); have S1x := Aside0.mk ((S1.out.up climb).up hb); have S2x := Aside0.mk ((S2.out.up climb).up hb); clear HB K K2 S1 S2 hb s5; have HB := HBx; have K := Kx; have K2 := K2x; have S1 := S1x; have S2 := S2x; have S5 := S5n; clear HBx Kx K2x S1x S2x S5n)
    | (go_at_call 48; (with_reducible refine (plus_cs k a D b _ (gl_below hGl (bl HB.out)) H2.out (S5.out.up climb) (S2.out.up climb)).mono ?_); rintro _ w2 ⟨A6, c6, rfl, s6, hb⟩; have S6n := Aside0.mk (s6); have HBx := Aside0.mk (below_step (bl HB.out) hb); have Kx := Aside0.mk (blk_below (blk_below K.out climb) hb); have K2x := Aside0.mk (blk_below (blk_below K2.out climb) hb); have S1x := Aside0.mk ((S1.out.up climb).up hb); have S2x := Aside0.mk ((S2.out.up climb).up hb); clear HB K K2 S1 S2 hb s6 S5; have HB := HBx; have K := Kx; have K2 := K2x; have S1 := S1x; have S2 := S2x; have S6 := S6n; clear HBx Kx K2x S1x S2x S6n)
    | (go_at_call 48; (with_reducible refine (plus_cs k D D c _ (gl_below hGl (bl HB.out)) H3.out (S2.out.up climb) (S2.out.up climb)).mono ?_); rintro _ w3 ⟨A7, c7, rfl, s7, hb⟩; have S7n := Aside0.mk (s7); have HBx := Aside0.mk (below_step (bl HB.out) hb); have Kx := Aside0.mk (blk_below (blk_below K.out climb) hb); have K2x := Aside0.mk (blk_below (blk_below K2.out climb) hb); have S1x := Aside0.mk ((S1.out.up climb).up hb); have S2x := Aside0.mk ((S2.out.up climb).up hb); have S6x := Aside0.mk ((S6.out.up climb).up hb); clear HB K K2 S1 S2 S6 hb s7; have HB := HBx; have K := Kx; have K2 := K2x; have S1 := S1x; have S2 := S2x; have S6 := S6x; have S7 := S7n; clear HBx Kx K2x S1x S2x S6x S7n)
    | (go_at_call 47; (with_reducible refine (divide_cx (fun j => j = w.heap.size + 1) k b c q r _ (fun j hj => hj ▸ blk_lt (blk_below K2.out climb)) (gl_below hGl (bl HB.out)) H4.out (S6.out.up climb) (S7.out.up climb)).mono ?_); rintro _ w4 ⟨A8, c8, A9, c9, rfl, s8, s9, hb⟩; have S8n := Aside0.mk (s8); have HBx := Aside0.mk (below_step (bl HB.out) hb); have Kx := Aside0.mk (blk_below (blk_below K.out climb) hb); have K2x := Aside0.mk (blk_below (blk_below K2.out climb) hb); have S1x := Aside0.mk ((S1.out.up climb).up hb); have S2x := Aside0.mk ((S2.out.up climb).up hb); clear HB K K2 S1 S2 hb s8 s9 S6 S7; have HB := HBx; have K := Kx; have K2 := K2x; have S1 := S1x; have S2 := S2x; have S8 := S8n; clear HBx Kx K2x S1x S2x S8n))
  have k0 := (blk_cell K.out 0).trans rfl
  have L := Aside0.mk (blk_below K2.out (climb (W' := w4.alloc (.cells #[.int .u32 1] 90))))
  have g0 := blk_frozen L.out 0; have g1 := blk_frozen (blk_set L.out 0 (.bool m)) 1; have g2 := blk_frozen (blk_set (blk_set L.out 0 (.bool m)) 1 (.slice A8 q.length c8)) 2
  have d0 := (blk_cell L.out 0).trans rfl; have d1 := (blk_cell (blk_set L.out 0 (.bool m)) 1).trans rfl; have d2 := (blk_cell (blk_set (blk_set L.out 0 (.bool m)) 1 (.slice A8 q.length c8)) 2).trans rfl
  have T8 := Aside0.mk (S8.out.up (climb (W' := w4.alloc (.cells #[.int .u32 1] 90))))
  have T9 := Aside0.mk (lit_cx (fun j => j = w.heap.size + 1) w4 1 (fun j hj => hj ▸ blk_lt K2.out))
  have TB := Aside0.mk (show Below w.heap.size w (w4.alloc (.cells #[.int .u32 1] 90)) from bl HB.out)
  clear HB K K2 S1 S2 S8
  go_wp2
  refine bodyPost_ret (results_cell_row rfl _ _ (w.heap.size + 1) 80 _ (0, 0) _ rfl (blk_set (blk_set (blk_set L.out 0 (.bool m)) 1 (.slice A8 q.length c8)) 2 (.slice (some ⟨w4.heap.size, 0, none⟩) 1 1)) Tryz.underlying80 rfl (by kernel_rfl)) rfl ?_
  refine ⟨_, _, _, _, rfl, ?_, ?_, below_set (below_set (below_set TB.out (Nat.le_succ _)) (Nat.le_succ _)) (Nat.le_succ _)⟩
  · exact (((T8.out.set (p := ⟨w.heap.size + 1, 0, none⟩) rfl _).set (p := ⟨w.heap.size + 1, 1, none⟩) rfl _).set (p := ⟨w.heap.size + 1, 2, none⟩) rfl _).cs
  · exact (((T9.out.set (p := ⟨w.heap.size + 1, 0, none⟩) rfl _).set (p := ⟨w.heap.size + 1, 1, none⟩) rfl _).set (p := ⟨w.heap.size + 1, 2, none⟩) rfl _).cs
end Go.Proofs.YtefhcgnamfnkbaaGreatDoor.Pr
