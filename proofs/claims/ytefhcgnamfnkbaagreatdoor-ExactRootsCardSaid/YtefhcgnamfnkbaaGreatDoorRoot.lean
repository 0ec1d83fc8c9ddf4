/- nat.root, walked by hand over digits that are only read. -/
import Derived.Test.YtefhcgnamfnkbaaGreatDoorDs
import Derived.Test.YtefhcgnamfnkbaaGreatDoorText
import Derived.Deep.LoopGhost
namespace Go.Proofs.YtefhcgnamfnkbaaGreatDoor.Pr
open Go.RowKit Go.Proofs.YtefhcgnamfnkbaaGreatDoorW.PrintWords Go.Proofs.YtefhcgnamfnkbaaGreatDoorW.PrintLast Go.Proofs.YtefhcgnamfnkbaaGreatDoorW.PrintMore

def exact_nat_root.l0 : Nat → List Int → List Int → List Int → Option (List Int)
  | 0, _, _, _ => none
  | k + 1, l, x, two => (exact_divide.f k l x).bind fun q => (exact_nat_plus.f k x q.1).bind fun s => (exact_divide.f k s two).bind fun y => (exact_nat_compare.f k y.1 x).bind fun c => if c ≥ 0 then some x else exact_nat_root.l0 k l y.1 two
def exact_nat_root.f (k : Nat) (l : List Int) : Option (List Int) := (exact_nat_zero.f l).bind fun z => if z = true then some l else (exact_nat_text.f k l).bind fun t => if t.size ≤ 100000 then (exact_ten.f k (((t.size : Int) + 1) / 2 + 1)).bind fun x => exact_nat_root.l0 k l x [2] else none
set_option maxHeartbeats 2000000 in
set_option maxRecDepth 100000 in
theorem root_cs (k : Nat) (l r : List Int) (w : World) (hGl : Gl w) (h : exact_nat_root.f k l = some r) {A0 : Option Addr} {c0 : Nat} (s0 : Cs w A0 c0 l) :
    Calls Tryz.prog 55 #[.slice A0 l.length c0] w fun x w' => ∃ A1 c1, x = .returned (.slice A1 r.length c1) ∧ Cs w' A1 c1 r ∧ Below w.heap.size w w' := by
  have HB := Aside0.mk (Below.refl w.heap.size w)
  have S0 := Aside0.mk s0
  clear s0
  obtain ⟨z, h1, h⟩ := Option.bind_eq_some_iff.1 h
  have H1 := Aside0.mk h1
  clear h1
  cases z with
  | true =>
    rw [if_pos rfl] at h
    obtain rfl := Option.some.inj h
    go_enter Tryz.func55, Tryz.ntmps55
    go_wp2_with (first | (go_at_call 44; (with_reducible refine (zero_cs l _ _ (gl_below hGl (bl HB.out)) H1.out (S0.out.up climb)).mono ?_); rintro _ w1 ⟨rfl, hb⟩; have HBx := Aside0.mk (below_step (bl HB.out) hb); have S0x := Aside0.mk ((S0.out.up climb).up hb); clear HB S0 hb ; have HB := HBx; have S0 := S0x; clear HBx S0x))
    go_ret
    exact ⟨A0, c0, rfl, S0.out.up climb, bl HB.out⟩
  | false =>
    rw [if_neg (by decide)] at h
    obtain ⟨t, h2, h⟩ := Option.bind_eq_some_iff.1 h
    have H2 := Aside0.mk h2
    clear h2
    split at h
    case isFalse => cases h
    rename_i ht
    obtain ⟨x0, h3, h⟩ := Option.bind_eq_some_iff.1 h
    have H3 := Aside0.mk h3
    have H' := Aside0.mk h
    clear h h3
    go_enter Tryz.func55, Tryz.ntmps55
    go_wp2_with (first
      | (go_at_call 44; (with_reducible refine (zero_cs l _ _ (gl_below hGl (bl HB.out)) H1.out (S0.out.up climb)).mono ?_); rintro _ w1 ⟨rfl, hb⟩; have HBx := Aside0.mk (below_step (bl HB.out) hb); have S0x := Aside0.mk ((S0.out.up climb).up hb); clear HB S0 hb ; have HB := HBx; have S0 := S0x; clear HBx S0x)
      | (go_at_call 88; (with_reducible refine (text_cs k l t _ (gl_below hGl (bl HB.out)) H2.out (S0.out.up climb)).mono ?_); rintro _ w2 ⟨rfl, hb⟩; have HBx := Aside0.mk (below_step (bl HB.out) hb); have S0x := Aside0.mk ((S0.out.up climb).up hb); clear HB S0 hb ; have HB := HBx; have S0 := S0x; clear HBx S0x)
      | (go_at_call 54; (with_reducible refine (ten_cs k _ x0 _ (gl_below hGl (bl HB.out)) H3.out).mono ?_); rintro _ w3 ⟨A3, c3, rfl, s3, hb⟩; have S3n := Aside0.mk (s3); have HBx := Aside0.mk (below_step (bl HB.out) hb); have S0x := Aside0.mk ((S0.out.up climb).up hb); clear HB S0 hb s3; have HB := HBx; have S0 := S0x; have S3 := S3n; clear HBx S0x S3n))
    go_loopg [3] k (fun kq v3 w' => ∃ (x : List Int) (A : Option Addr) (c : Nat), v3 = .slice A x.length c ∧ Aside0 (exact_nat_root.l0 kq l x [2] = some r) ∧ Aside0 (kq ≤ k) ∧ Aside0 (Cs w' A0 c0 l) ∧ Aside0 (Cs w' A c x) ∧ Aside0 (Below w.heap.size w w'))
    case atStart => exact ⟨x0, A3, c3, rfl, H', ⟨Nat.le_refl _⟩, ⟨S0.out.up climb⟩, ⟨S3.out.up climb⟩, ⟨bl HB.out⟩⟩
    case round =>
      clear H' S0 S3 HB
      obtain ⟨x, A, c, rfl, HA, HK1, S0, SX, HB⟩ := hrel
      cases gk with
      | zero => exact absurd HA.out (by simp [exact_nat_root.l0])
      | succ k1 =>
        have h := HA.out
        clear HA
        simp only [exact_nat_root.l0] at h
        obtain ⟨⟨q, q2⟩, g1, h⟩ := Option.bind_eq_some_iff.1 h
        dsimp only at h
        obtain ⟨s, g2, h⟩ := Option.bind_eq_some_iff.1 h
        obtain ⟨⟨y, y2⟩, g3, h⟩ := Option.bind_eq_some_iff.1 h
        dsimp only at h
        obtain ⟨n, g4, h⟩ := Option.bind_eq_some_iff.1 h
        have G1 := Aside0.mk g1; have G2 := Aside0.mk g2; have G3 := Aside0.mk g3; have G4 := Aside0.mk g4
        clear g1 g2 g3 g4
        by_cases hc : n ≥ 0
        · rw [if_pos hc] at h
          have hcb : decide (0 ≤ n) = true := decide_eq_true hc
          clear hc
          obtain rfl := Option.some.inj h
          go_wp2_with (first
            | (go_at_call 47; (with_reducible refine (divide_cs k1 l x q q2 _ (gl_below hGl (bl HB.out)) G1.out (S0.out.up climb) (SX.out.up climb)).mono ?_); rintro _ u1 ⟨A4, c4, A5, c5, rfl, s4, s5, hb⟩; have S4n := Aside0.mk (s4); have HBx := Aside0.mk (below_step (bl HB.out) hb); have S0x := Aside0.mk ((S0.out.up climb).up hb); have SXx := Aside0.mk ((SX.out.up climb).up hb); clear HB S0 SX hb s4 s5; have HB := HBx; have S0 := S0x; have SX := SXx; have S4 := S4n; clear HBx S0x SXx S4n)
            | (go_at_call 48; (with_reducible refine (plus_cs k1 x q s _ (gl_below hGl (bl HB.out)) G2.out (SX.out.up climb) (S4.out.up climb)).mono ?_); rintro _ u2 ⟨A6, c6, rfl, s6, hb⟩; have S6n := Aside0.mk (s6); have HBx := Aside0.mk (below_step (bl HB.out) hb); have S0x := Aside0.mk ((S0.out.up climb).up hb); have SXx := Aside0.mk ((SX.out.up climb).up hb); clear HB S0 SX hb s6 S4; have HB := HBx; have S0 := S0x; have SX := SXx; have S6 := S6n; clear HBx S0x SXx S6n)
            | (go_at_call 47; refine (divide_cs k1 s [2] y y2 _ (gl_below hGl (bl HB.out)) G3.out (S6.out.up climb) ((lit_cs _ 2).up climb)).mono ?_; rintro _ u3 ⟨A7, c7, A8, c8, rfl, s7, s8, hb⟩; have S7n := Aside0.mk (s7); have HBx := Aside0.mk (below_step (bl HB.out) hb); have S0x := Aside0.mk ((S0.out.up climb).up hb); have SXx := Aside0.mk ((SX.out.up climb).up hb); clear HB S0 SX hb s7 s8 S6; have HB := HBx; have S0 := S0x; have SX := SXx; have S7 := S7n; clear HBx S0x SXx S7n)
            | (go_at_call 83; (with_reducible refine (comp_cs k1 y x n _ (gl_below hGl (bl HB.out)) G4.out (S7.out.up climb) (SX.out.up climb)).mono ?_); rintro _ u4 ⟨rfl, hb⟩; have HBx := Aside0.mk (below_step (bl HB.out) hb); have S0x := Aside0.mk ((S0.out.up climb).up hb); have SXx := Aside0.mk ((SX.out.up climb).up hb); have S7x := Aside0.mk ((S7.out.up climb).up hb); clear HB S0 SX S7 hb ; have HB := HBx; have S0 := S0x; have SX := SXx; have S7 := S7x; clear HBx S0x SXx S7x))
          go_ret
          exact ⟨_, _, rfl, SX.out.up climb, bl HB.out⟩
        · rw [if_neg hc] at h
          have hcb : decide (0 ≤ n) = false := decide_eq_false hc
          clear hc
          have H' := Aside0.mk h
          clear h
          go_wp2_with (first
            | (go_at_call 47; (with_reducible refine (divide_cs k1 l x q q2 _ (gl_below hGl (bl HB.out)) G1.out (S0.out.up climb) (SX.out.up climb)).mono ?_); rintro _ u1 ⟨A4, c4, A5, c5, rfl, s4, s5, hb⟩; have S4n := Aside0.mk (s4); have HBx := Aside0.mk (below_step (bl HB.out) hb); have S0x := Aside0.mk ((S0.out.up climb).up hb); have SXx := Aside0.mk ((SX.out.up climb).up hb); clear HB S0 SX hb s4 s5; have HB := HBx; have S0 := S0x; have SX := SXx; have S4 := S4n; clear HBx S0x SXx S4n)
            | (go_at_call 48; (with_reducible refine (plus_cs k1 x q s _ (gl_below hGl (bl HB.out)) G2.out (SX.out.up climb) (S4.out.up climb)).mono ?_); rintro _ u2 ⟨A6, c6, rfl, s6, hb⟩; have S6n := Aside0.mk (s6); have HBx := Aside0.mk (below_step (bl HB.out) hb); have S0x := Aside0.mk ((S0.out.up climb).up hb); have SXx := Aside0.mk ((SX.out.up climb).up hb); clear HB S0 SX hb s6 S4; have HB := HBx; have S0 := S0x; have SX := SXx; have S6 := S6n; clear HBx S0x SXx S6n)
            | (go_at_call 47; refine (divide_cs k1 s [2] y y2 _ (gl_below hGl (bl HB.out)) G3.out (S6.out.up climb) ((lit_cs _ 2).up climb)).mono ?_; rintro _ u3 ⟨A7, c7, A8, c8, rfl, s7, s8, hb⟩; have S7n := Aside0.mk (s7); have HBx := Aside0.mk (below_step (bl HB.out) hb); have S0x := Aside0.mk ((S0.out.up climb).up hb); have SXx := Aside0.mk ((SX.out.up climb).up hb); clear HB S0 SX hb s7 s8 S6; have HB := HBx; have S0 := S0x; have SX := SXx; have S7 := S7n; clear HBx S0x SXx S7n)
            | (go_at_call 83; (with_reducible refine (comp_cs k1 y x n _ (gl_below hGl (bl HB.out)) G4.out (S7.out.up climb) (SX.out.up climb)).mono ?_); rintro _ u4 ⟨rfl, hb⟩; have HBx := Aside0.mk (below_step (bl HB.out) hb); have S0x := Aside0.mk ((S0.out.up climb).up hb); have SXx := Aside0.mk ((SX.out.up climb).up hb); have S7x := Aside0.mk ((S7.out.up climb).up hb); clear HB S0 SX S7 hb ; have HB := HBx; have S0 := S0x; have SX := SXx; have S7 := S7x; clear HBx S0x SXx S7x))
          go_roundg k1
          case measure => have := HK1.out; omega
          case rel => exact ⟨y, _, _, rfl, H', ⟨by have := HK1.out; omega⟩, ⟨S0.out.up climb⟩, ⟨S7.out.up climb⟩, ⟨bl HB.out⟩⟩
end Go.Proofs.YtefhcgnamfnkbaaGreatDoor.Pr
