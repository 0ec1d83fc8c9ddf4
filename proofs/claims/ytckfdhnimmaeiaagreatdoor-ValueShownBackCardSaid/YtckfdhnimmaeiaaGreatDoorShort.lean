/- exact.Shortest where the fraction is good, walked by hand. -/
import Derived.Test.YtckfdhnimmaeiaaGreatDoorDec
import Derived.Deep.LoopGhost
import Derived.Deep.RegionHeld3
namespace Go.Proofs.YtckfdhnimmaeiaaGreatDoor.Pr
open Go.RowKit Go.Proofs.YtckfdhnimmaeiaaGreatDoorW.PrintWords Go.Proofs.YtckfdhnimmaeiaaGreatDoorW.PrintLast Go.Proofs.YtckfdhnimmaeiaaGreatDoorW.PrintMore
def exact_Shortest.l0 : Nat → Nat → List Int → Bool → List Int → List Int → Option (ByteArray × Bool × Int)
  | 0, _, _, _, _, _ => none
  | k + 1, p, d, m, N, D => if p ≤ 1000 then (exact_nat_one.f d).bind fun o => if o = true then (exact_ten.f k (p : Int)).bind fun T => (exact_nat_times.f k N T).bind fun M => (exact_divide.f k M D).bind fun q => (exact_number_decimal.f k m q.1 [1] p).bind fun s => some (s, true, 0) else (exact_divide.f k d [10]).bind fun q => (exact_nat_zero.f q.2).bind fun z => if z = true then exact_Shortest.l0 k (p + 1) q.1 m N D else (exact_common.f k d [10]).bind fun g => (exact_nat_one.f g).bind fun u => if u = true then some (⟨#[]⟩, false, 0) else (exact_divide.f k d g).bind fun y => exact_Shortest.l0 k (p + 1) y.1 m N D else none
/-- exact.Shortest; nothing is told where the fraction has an error. -/
def exact_Shortest.f (k : Nat) (a0 a1 : ByteArray) : Option (ByteArray × Bool × Int) := (exact_read.f k a0 a1).bind fun t => if t.2.2.2 = 0 then exact_Shortest.l0 k 0 t.2.2.1 t.1 t.2.1 t.2.2.1 else none
set_option maxHeartbeats 4000000 in
set_option maxRecDepth 100000 in
theorem exact_Shortest.calls (k : Nat) (a0 a1 : ByteArray) (r0 : ByteArray) (r1 : Bool) (r2 : Int) (w : World) (hGl : Gl w) (h : exact_Shortest.f k a0 a1 = some (r0, r1, r2)) :
    Calls Tryz.prog 14 #[.agg #[.string a0, .string a1]] w fun e w' => e = .returned (.tuple #[.string r0, .bool r1, .int .i64 r2]) ∧ Below w.heap.size w w' := by
  have hu23 := Tryz.underlying30
  have hu80 := Tryz.underlying64
  have hu78 := Tryz.underlying62
  have HB := Aside0.mk (Below.refl w.heap.size w)
  obtain ⟨⟨m, N, D, e⟩, h0, h⟩ := Option.bind_eq_some_iff.1 h
  have H0 := Aside0.mk h0
  clear h0
  dsimp only at h
  by_cases he : e = 0
  case neg => rw [if_neg he] at h; cases h
  subst he
  rw [if_pos rfl] at h
  have H' := Aside0.mk h
  clear h
  go_enter Tryz.func14, Tryz.ntmps14
  go_wp2_with (first | (go_at_call 31; (with_reducible refine (read_cs k a0 a1 m N D 0 _ (gl_below hGl (bl HB.out)) H0.out).mono ?_); rintro _ w1 ⟨A1, c1, A2, c2, rfl, s1, s2, hb⟩; have S1n := Aside0.mk (s1); have S2n := Aside0.mk (s2); have HBx := Aside0.mk (below_step (bl HB.out) hb); clear HB hb s1 s2; have HB := HBx; have S1 := S1n; have S2 := S2n; clear HBx S1n S2n))
  go_loopg [7, 8] k (fun kq v7 v8 w' => ∃ (p : Nat) (d : List Int) (A : Option Addr) (c : Nat), v7 = .int .i64 (p : Int) ∧ v8 = .slice A d.length c ∧ Aside0 (exact_Shortest.l0 kq p d m N D = some (r0, r1, r2)) ∧ Aside0 (kq ≤ k) ∧ Aside0 (w'.heap[w1.heap.size]? = some (.cells #[.bool m, .slice A1 N.length c1, .slice A2 D.length c2] 64 (0, 0))) ∧ Aside0 (Cs w' A1 c1 N) ∧ Aside0 (Cs w' A2 c2 D) ∧ Aside0 (Cs w' A c d) ∧ Aside0 (Below w.heap.size w w'))
  case atStart => exact ⟨0, D, A2, c2, rfl, rfl, H', ⟨Nat.le_refl _⟩, ⟨blk_new w1 _⟩, ⟨S1.out.up climb⟩, ⟨S2.out.up climb⟩, ⟨S2.out.up climb⟩, ⟨bl HB.out⟩⟩
  case round =>
    clear H' S1 S2 HB
    obtain ⟨p, d, A, c, rfl, rfl, HA, HK1, K, S1, S2, SX, HB⟩ := hrel
    cases gk with
    | zero => exact absurd HA.out (by simp [exact_Shortest.l0])
    | succ k1 =>
      have h := HA.out
      clear HA
      simp only [exact_Shortest.l0] at h
      split at h
      case isFalse => cases h
      rename_i hp
      obtain ⟨o, g1, h⟩ := Option.bind_eq_some_iff.1 h
      have G1 := Aside0.mk g1
      clear g1
      cases o with
      | true =>
        rw [if_pos rfl] at h
        obtain ⟨T, g2, h⟩ := Option.bind_eq_some_iff.1 h
        obtain ⟨M, g3, h⟩ := Option.bind_eq_some_iff.1 h
        obtain ⟨⟨q, q2⟩, g4, h⟩ := Option.bind_eq_some_iff.1 h
        dsimp only at h
        obtain ⟨s, g5, h⟩ := Option.bind_eq_some_iff.1 h
        have G2 := Aside0.mk g2; have G3 := Aside0.mk g3; have G4 := Aside0.mk g4; have G5 := Aside0.mk g5
        clear g2 g3 g4 g5
        simp only [Option.some.injEq, Prod.mk.injEq] at h
        obtain ⟨rfl, rfl, rfl⟩ := h
        go_upto_region 15 with (first | (go_at_call 32; (with_reducible refine (one_cs d _ _ (gl_below hGl (bl HB.out)) G1.out (SX.out.up climb)).mono ?_); rintro _ u1 ⟨rfl, hb⟩; have HBx := Aside0.mk (below_step (bl HB.out) hb); have Kx := Aside0.mk (blk_below (blk_below K.out climb) hb); have S1x := Aside0.mk ((S1.out.up climb).up hb); have S2x := Aside0.mk ((S2.out.up climb).up hb); have SXx := Aside0.mk ((SX.out.up climb).up hb); clear HB K S1 S2 SX hb ; have HB := HBx; have K := Kx; have S1 := S1x; have S2 := S2x; have SX := SXx; clear HBx Kx S1x S2x SXx))
        go_region_held3 (fun w' => w'.cell? ⟨w1.heap.size, 1, none⟩ = some (.slice A1 N.length c1) ∧ w'.cell? ⟨w1.heap.size, 2, none⟩ = some (.slice A2 D.length c2)) (exact ⟨(blk_cell (blk_below K.out climb) 1).trans rfl, (blk_cell (blk_below K.out climb) 2).trans rfl⟩)
          (first
          | (go_at_call 37; (with_reducible refine (ten_cs k1 (p : Int) T _ (gl_below hGl (bl HB.out)) G2.out).mono ?_); rintro _ u2 ⟨A4, c4, rfl, s4, hb⟩; have S4n := Aside0.mk (s4); have HBx := Aside0.mk (below_step (bl HB.out) hb); have Kx := Aside0.mk (blk_below (blk_below K.out climb) hb); have S1x := Aside0.mk ((S1.out.up climb).up hb); have S2x := Aside0.mk ((S2.out.up climb).up hb); clear HB K S1 S2 hb s4; have HB := HBx; have K := Kx; have S1 := S1x; have S2 := S2x; have S4 := S4n; clear HBx Kx S1x S2x S4n)
          | (go_at_call 36; (with_reducible refine (times_cs k1 N T M _ (gl_below hGl (bl HB.out)) G3.out (S1.out.up climb) (S4.out.up climb)).mono ?_); rintro _ u3 ⟨A5, c5, rfl, s5, hb⟩; have S5n := Aside0.mk (s5); have HBx := Aside0.mk (below_step (bl HB.out) hb); have Kx := Aside0.mk (blk_below (blk_below K.out climb) hb); have S1x := Aside0.mk ((S1.out.up climb).up hb); have S2x := Aside0.mk ((S2.out.up climb).up hb); clear HB K S1 S2 hb s5 S4; have HB := HBx; have K := Kx; have S1 := S1x; have S2 := S2x; have S5 := S5n; clear HBx Kx S1x S2x S5n)
          | (go_at_call 33; (with_reducible refine (divide_cs k1 M D q q2 _ (gl_below hGl (bl HB.out)) G4.out (S5.out.up climb) (S2.out.up climb)).mono ?_); rintro _ u4 ⟨A6, c6, A7, c7, rfl, s6, s7, hb⟩; have S6n := Aside0.mk (s6); have HBx := Aside0.mk (below_step (bl HB.out) hb); have Kx := Aside0.mk (blk_below (blk_below K.out climb) hb); have S1x := Aside0.mk ((S1.out.up climb).up hb); have S2x := Aside0.mk ((S2.out.up climb).up hb); clear HB K S1 S2 hb s6 s7 S5; have HB := HBx; have K := Kx; have S1 := S1x; have S2 := S2x; have S6 := S6n; clear HBx Kx S1x S2x S6n))
        have q0 := (blk_cell K.out 0).trans rfl
        go_wp2_with (first | (go_at_call 38; refine (decimal_cs k1 m q [1] p s _ (gl_below hGl (bl HB.out)) G5.out (c2 := 1) (S6.out.up climb)).mono ?_; rintro _ u5 ⟨rfl, hb⟩; have HBx := Aside0.mk (below_step (bl HB.out) hb); clear HB hb ; have HB := HBx; clear HBx))
        go_ret3
        exact ⟨rfl, bl HB.out⟩
      | false =>
        rw [if_neg (by decide)] at h
        obtain ⟨⟨q, q2⟩, g2, h⟩ := Option.bind_eq_some_iff.1 h
        dsimp only at h
        obtain ⟨z, g3, h⟩ := Option.bind_eq_some_iff.1 h
        have G2 := Aside0.mk g2; have G3 := Aside0.mk g3
        clear g2 g3
        cases z with
        | true =>
          rw [if_pos rfl] at h
          have H' := Aside0.mk h
          clear h
          go_wp2_with (first
            | (go_at_call 32; (with_reducible refine (one_cs d _ _ (gl_below hGl (bl HB.out)) G1.out (SX.out.up climb)).mono ?_); rintro _ u1 ⟨rfl, hb⟩; have HBx := Aside0.mk (below_step (bl HB.out) hb); have Kx := Aside0.mk (blk_below (blk_below K.out climb) hb); have S1x := Aside0.mk ((S1.out.up climb).up hb); have S2x := Aside0.mk ((S2.out.up climb).up hb); have SXx := Aside0.mk ((SX.out.up climb).up hb); clear HB K S1 S2 SX hb ; have HB := HBx; have K := Kx; have S1 := S1x; have S2 := S2x; have SX := SXx; clear HBx Kx S1x S2x SXx)
            | (go_at_call 33; refine (divide_cs k1 d [10] q q2 _ (gl_below hGl (bl HB.out)) G2.out (SX.out.up climb) ((lit_cs _ 10).up climb)).mono ?_; rintro _ u2 ⟨A4, c4, A5, c5, rfl, s4, s5, hb⟩; have S4n := Aside0.mk (s4); have S5n := Aside0.mk (s5); have HBx := Aside0.mk (below_step (bl HB.out) hb); have Kx := Aside0.mk (blk_below (blk_below K.out climb) hb); have S1x := Aside0.mk ((S1.out.up climb).up hb); have S2x := Aside0.mk ((S2.out.up climb).up hb); have SXx := Aside0.mk ((SX.out.up climb).up hb); clear HB K S1 S2 SX hb s4 s5; have HB := HBx; have K := Kx; have S1 := S1x; have S2 := S2x; have SX := SXx; have S4 := S4n; have S5 := S5n; clear HBx Kx S1x S2x SXx S4n S5n)
            | (go_at_call 34; (with_reducible refine (zero_cs q2 _ _ (gl_below hGl (bl HB.out)) G3.out (S5.out.up climb)).mono ?_); rintro _ u3 ⟨rfl, hb⟩; have HBx := Aside0.mk (below_step (bl HB.out) hb); have Kx := Aside0.mk (blk_below (blk_below K.out climb) hb); have S1x := Aside0.mk ((S1.out.up climb).up hb); have S2x := Aside0.mk ((S2.out.up climb).up hb); have SXx := Aside0.mk ((SX.out.up climb).up hb); have S4x := Aside0.mk ((S4.out.up climb).up hb); clear HB K S1 S2 SX S4 hb S5; have HB := HBx; have K := Kx; have S1 := S1x; have S2 := S2x; have SX := SXx; have S4 := S4x; clear HBx Kx S1x S2x SXx S4x))
          go_roundg k1
          case measure => have := HK1.out; omega
          case rel => exact ⟨p + 1, q, _, _, by go_num, rfl, H', ⟨by have := HK1.out; omega⟩, ⟨blk_below K.out climb⟩, ⟨S1.out.up climb⟩, ⟨S2.out.up climb⟩, ⟨S4.out.up climb⟩, ⟨bl HB.out⟩⟩
        | false =>
          rw [if_neg (by decide)] at h
          obtain ⟨g, g4, h⟩ := Option.bind_eq_some_iff.1 h
          obtain ⟨u, g5, h⟩ := Option.bind_eq_some_iff.1 h
          have G4 := Aside0.mk g4; have G5 := Aside0.mk g5
          clear g4 g5
          cases u with
          | true =>
            rw [if_pos rfl] at h
            simp only [Option.some.injEq, Prod.mk.injEq] at h
            obtain ⟨rfl, rfl, rfl⟩ := h
            go_wp2_with (first
              | (go_at_call 32; (with_reducible refine (one_cs d _ _ (gl_below hGl (bl HB.out)) G1.out (SX.out.up climb)).mono ?_); rintro _ u1 ⟨rfl, hb⟩; have HBx := Aside0.mk (below_step (bl HB.out) hb); have Kx := Aside0.mk (blk_below (blk_below K.out climb) hb); have S1x := Aside0.mk ((S1.out.up climb).up hb); have S2x := Aside0.mk ((S2.out.up climb).up hb); have SXx := Aside0.mk ((SX.out.up climb).up hb); clear HB K S1 S2 SX hb ; have HB := HBx; have K := Kx; have S1 := S1x; have S2 := S2x; have SX := SXx; clear HBx Kx S1x S2x SXx)
              | (go_at_call 33; refine (divide_cs k1 d [10] q q2 _ (gl_below hGl (bl HB.out)) G2.out (SX.out.up climb) ((lit_cs _ 10).up climb)).mono ?_; rintro _ u2 ⟨A4, c4, A5, c5, rfl, s4, s5, hb⟩; have S4n := Aside0.mk (s4); have S5n := Aside0.mk (s5); have HBx := Aside0.mk (below_step (bl HB.out) hb); have Kx := Aside0.mk (blk_below (blk_below K.out climb) hb); have S1x := Aside0.mk ((S1.out.up climb).up hb); have S2x := Aside0.mk ((S2.out.up climb).up hb); have SXx := Aside0.mk ((SX.out.up climb).up hb); clear HB K S1 S2 SX hb s4 s5; have HB := HBx; have K := Kx; have S1 := S1x; have S2 := S2x; have SX := SXx; have S4 := S4n; have S5 := S5n; clear HBx Kx S1x S2x SXx S4n S5n)
              | (go_at_call 34; (with_reducible refine (zero_cs q2 _ _ (gl_below hGl (bl HB.out)) G3.out (S5.out.up climb)).mono ?_); rintro _ u3 ⟨rfl, hb⟩; have HBx := Aside0.mk (below_step (bl HB.out) hb); have Kx := Aside0.mk (blk_below (blk_below K.out climb) hb); have S1x := Aside0.mk ((S1.out.up climb).up hb); have S2x := Aside0.mk ((S2.out.up climb).up hb); have SXx := Aside0.mk ((SX.out.up climb).up hb); have S4x := Aside0.mk ((S4.out.up climb).up hb); clear HB K S1 S2 SX S4 hb S5; have HB := HBx; have K := Kx; have S1 := S1x; have S2 := S2x; have SX := SXx; have S4 := S4x; clear HBx Kx S1x S2x SXx S4x)
              | (go_at_call 35; refine (common_cs k1 d [10] g _ (gl_below hGl (bl HB.out)) G4.out (SX.out.up climb) ((lit_cs _ 10).up climb)).mono ?_; rintro _ u4 ⟨A6, c6, rfl, s6, hb⟩; have S6n := Aside0.mk (s6); have HBx := Aside0.mk (below_step (bl HB.out) hb); have Kx := Aside0.mk (blk_below (blk_below K.out climb) hb); have S1x := Aside0.mk ((S1.out.up climb).up hb); have S2x := Aside0.mk ((S2.out.up climb).up hb); have SXx := Aside0.mk ((SX.out.up climb).up hb); clear HB K S1 S2 SX hb s6 S4; have HB := HBx; have K := Kx; have S1 := S1x; have S2 := S2x; have SX := SXx; have S6 := S6n; clear HBx Kx S1x S2x SXx S6n)
              | (go_at_call 32; (with_reducible refine (one_cs g _ _ (gl_below hGl (bl HB.out)) G5.out (S6.out.up climb)).mono ?_); rintro _ u5 ⟨rfl, hb⟩; have HBx := Aside0.mk (below_step (bl HB.out) hb); have Kx := Aside0.mk (blk_below (blk_below K.out climb) hb); have S1x := Aside0.mk ((S1.out.up climb).up hb); have S2x := Aside0.mk ((S2.out.up climb).up hb); have SXx := Aside0.mk ((SX.out.up climb).up hb); have S6x := Aside0.mk ((S6.out.up climb).up hb); clear HB K S1 S2 SX S6 hb ; have HB := HBx; have K := Kx; have S1 := S1x; have S2 := S2x; have SX := SXx; have S6 := S6x; clear HBx Kx S1x S2x SXx S6x))
            go_ret3
            exact ⟨rfl, bl HB.out⟩
          | false =>
            rw [if_neg (by decide)] at h
            obtain ⟨⟨y, y2⟩, g6, h⟩ := Option.bind_eq_some_iff.1 h
            dsimp only at h
            have G6 := Aside0.mk g6
            clear g6
            have H' := Aside0.mk h
            clear h
            go_wp2_with (first
              | (go_at_call 32; (with_reducible refine (one_cs d _ _ (gl_below hGl (bl HB.out)) G1.out (SX.out.up climb)).mono ?_); rintro _ u1 ⟨rfl, hb⟩; have HBx := Aside0.mk (below_step (bl HB.out) hb); have Kx := Aside0.mk (blk_below (blk_below K.out climb) hb); have S1x := Aside0.mk ((S1.out.up climb).up hb); have S2x := Aside0.mk ((S2.out.up climb).up hb); have SXx := Aside0.mk ((SX.out.up climb).up hb); clear HB K S1 S2 SX hb ; have HB := HBx; have K := Kx; have S1 := S1x; have S2 := S2x; have SX := SXx; clear HBx Kx S1x S2x SXx)
              | (go_at_call 33; (with_reducible refine (divide_cs k1 d g y y2 _ (gl_below hGl (bl HB.out)) G6.out (SX.out.up climb) (S6.out.up climb)).mono ?_); rintro _ u6 ⟨A7, c7, A8, c8, rfl, s7, s8, hb⟩; have S7n := Aside0.mk (s7); have HBx := Aside0.mk (below_step (bl HB.out) hb); have Kx := Aside0.mk (blk_below (blk_below K.out climb) hb); have S1x := Aside0.mk ((S1.out.up climb).up hb); have S2x := Aside0.mk ((S2.out.up climb).up hb); have SXx := Aside0.mk ((SX.out.up climb).up hb); clear HB K S1 S2 SX hb s7 s8 S6; have HB := HBx; have K := Kx; have S1 := S1x; have S2 := S2x; have SX := SXx; have S7 := S7n; clear HBx Kx S1x S2x SXx S7n)
              | (go_at_call 33; refine (divide_cs k1 d [10] q q2 _ (gl_below hGl (bl HB.out)) G2.out (SX.out.up climb) ((lit_cs _ 10).up climb)).mono ?_; rintro _ u2 ⟨A4, c4, A5, c5, rfl, s4, s5, hb⟩; have S4n := Aside0.mk (s4); have S5n := Aside0.mk (s5); have HBx := Aside0.mk (below_step (bl HB.out) hb); have Kx := Aside0.mk (blk_below (blk_below K.out climb) hb); have S1x := Aside0.mk ((S1.out.up climb).up hb); have S2x := Aside0.mk ((S2.out.up climb).up hb); have SXx := Aside0.mk ((SX.out.up climb).up hb); clear HB K S1 S2 SX hb s4 s5; have HB := HBx; have K := Kx; have S1 := S1x; have S2 := S2x; have SX := SXx; have S4 := S4n; have S5 := S5n; clear HBx Kx S1x S2x SXx S4n S5n)
              | (go_at_call 34; (with_reducible refine (zero_cs q2 _ _ (gl_below hGl (bl HB.out)) G3.out (S5.out.up climb)).mono ?_); rintro _ u3 ⟨rfl, hb⟩; have HBx := Aside0.mk (below_step (bl HB.out) hb); have Kx := Aside0.mk (blk_below (blk_below K.out climb) hb); have S1x := Aside0.mk ((S1.out.up climb).up hb); have S2x := Aside0.mk ((S2.out.up climb).up hb); have SXx := Aside0.mk ((SX.out.up climb).up hb); have S4x := Aside0.mk ((S4.out.up climb).up hb); clear HB K S1 S2 SX S4 hb S5; have HB := HBx; have K := Kx; have S1 := S1x; have S2 := S2x; have SX := SXx; have S4 := S4x; clear HBx Kx S1x S2x SXx S4x)
              | (go_at_call 35; refine (common_cs k1 d [10] g _ (gl_below hGl (bl HB.out)) G4.out (SX.out.up climb) ((lit_cs _ 10).up climb)).mono ?_; rintro _ u4 ⟨A6, c6, rfl, s6, hb⟩; have S6n := Aside0.mk (s6); have HBx := Aside0.mk (below_step (bl HB.out) hb); have Kx := Aside0.mk (blk_below (blk_below K.out climb) hb); have S1x := Aside0.mk ((S1.out.up climb).up hb); have S2x := Aside0.mk ((S2.out.up climb).up hb); have SXx := Aside0.mk ((SX.out.up climb).up hb); clear HB K S1 S2 SX hb s6 S4; have HB := HBx; have K := Kx; have S1 := S1x; have S2 := S2x; have SX := SXx; have S6 := S6n; clear HBx Kx S1x S2x SXx S6n)
              | (go_at_call 32; (with_reducible refine (one_cs g _ _ (gl_below hGl (bl HB.out)) G5.out (S6.out.up climb)).mono ?_); rintro _ u5 ⟨rfl, hb⟩; have HBx := Aside0.mk (below_step (bl HB.out) hb); have Kx := Aside0.mk (blk_below (blk_below K.out climb) hb); have S1x := Aside0.mk ((S1.out.up climb).up hb); have S2x := Aside0.mk ((S2.out.up climb).up hb); have SXx := Aside0.mk ((SX.out.up climb).up hb); have S6x := Aside0.mk ((S6.out.up climb).up hb); clear HB K S1 S2 SX S6 hb ; have HB := HBx; have K := Kx; have S1 := S1x; have S2 := S2x; have SX := SXx; have S6 := S6x; clear HBx Kx S1x S2x SXx S6x))
            go_roundg k1
            case measure => have := HK1.out; omega
            case rel => exact ⟨p + 1, y, _, _, by go_num, rfl, H', ⟨by have := HK1.out; omega⟩, ⟨blk_below K.out climb⟩, ⟨S1.out.up climb⟩, ⟨S2.out.up climb⟩, ⟨S7.out.up climb⟩, ⟨bl HB.out⟩⟩
end Go.Proofs.YtckfdhnimmaeiaaGreatDoor.Pr
