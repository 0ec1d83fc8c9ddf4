/- number.decimal, walked by hand over digits that are only read. -/
import Derived.Test.YtckfdhnimmaeiaaGreatDoorDs
import Derived.Test.YtckfdhnimmaeiaaGreatDoorText
import Derived.Test.YtckfdhnimmaeiaaGreatDoorGiven
import Derived.Deep.RegionHeld3
import Derived.IntWalk
namespace Go.Proofs.YtckfdhnimmaeiaaGreatDoor.Pr
open Go.RowKit Go.Proofs.YtckfdhnimmaeiaaGreatDoorW.PrintWords Go.Proofs.YtckfdhnimmaeiaaGreatDoorW.PrintLast Go.Proofs.YtckfdhnimmaeiaaGreatDoorW.PrintMore
/-- The digits with their point. -/
def decS (s : ByteArray) (p : Nat) : ByteArray := if 0 < p then s.extract 0 (s.size - p) ++ (⟨#[46]⟩ : ByteArray) ++ s.extract (s.size - p) s.size else s
def exact_number_decimal.f (k : Nat) (m : Bool) (q _D : List Int) (p : Nat) : Option ByteArray := if p ≤ 1000 then (exact_nat_text.f k q).bind fun t => if t.size ≤ 100000 ∧ 1 ≤ t.size then (strings_Repeat.f ⟨#[48]⟩ ((p + 1 - t.size : Nat) : Int)).bind fun z => if z.size = p + 1 - t.size then (exact_nat_zero.f q).bind fun e => some (if m = true ∧ e = false then (⟨#[45]⟩ : ByteArray) ++ decS (z ++ t) p else decS (z ++ t) p) else none else none else none
attribute [local go_sem] max2_int min2_int max_two min_two
set_option maxHeartbeats 2000000 in
set_option maxRecDepth 100000 in
theorem decimal_cs (k : Nat) (m : Bool) (q D : List Int) (p : Nat) (r : ByteArray) (w : World) (hGl : Gl w) (h : exact_number_decimal.f k m q D p = some r) {A1 A2 : Option Addr} {c1 c2 : Nat} (s1 : Cs w A1 c1 q) :
    Calls Tryz.prog 38 #[.agg #[.bool m, .slice A1 q.length c1, .slice A2 D.length c2], .int .i64 (p : Int)] w fun x w' => x = .returned (.string r) ∧ Below w.heap.size w w' := by
  have hu80 := Tryz.underlying64
  have hu78 := Tryz.underlying62
  have HB := Aside0.mk (Below.refl w.heap.size w)
  have S1 := Aside0.mk s1
  clear s1
  have K := Aside0.mk (blk_new w (.cells #[.bool m, .slice A1 q.length c1, .slice A2 D.length c2] 64))
  unfold exact_number_decimal.f at h
  split at h
  case isFalse => cases h
  rename_i hp
  obtain ⟨t, h2, h⟩ := Option.bind_eq_some_iff.1 h
  have H2 := Aside0.mk h2
  clear h2
  split at h
  case isFalse => cases h
  rename_i ht
  obtain ⟨ht1, ht2⟩ := ht
  obtain ⟨z, h3, h⟩ := Option.bind_eq_some_iff.1 h
  split at h
  case isFalse => cases h
  rename_i hz
  obtain ⟨e, h4, h⟩ := Option.bind_eq_some_iff.1 h
  have H4 := Aside0.mk h4
  clear h4
  have h := Option.some.inj h
  obtain ⟨n0, hn0⟩ : ∃ n : Nat, p + 1 - t.size = n := ⟨_, rfl⟩
  rw [hn0] at h3 hz
  have H3 := Aside0.mk h3
  clear h3
  obtain ⟨s, hs⟩ : ∃ s, z ++ t = s := ⟨_, rfl⟩
  have hss : s.size = z.size + t.size := by rw [← hs, ByteArray.size_append]
  rw [hs] at h
  have hsl : s.size ≤ 200000 := by omega
  have hps : p < s.size := by omega
  have hzt : z.size + t.size ≤ 9223372036854775807 := by omega
  have HS := Aside0.mk hs
  clear hs hss hz
  by_cases hlt : t.size ≤ p
  · have hmx : (p : Int) + 1 - (t.size : Int) = (n0 : Int) := by omega
    have hpos : 0 < n0 := by omega
    have hpos2 : (0 : Int) < (n0 : Int) := by omega
    have q1 : ((t.size : Int) < (p : Int) + 1) = True := eq_true (by omega)
    have q2 : (t.size < p + 1) = True := eq_true (by omega)
    clear hlt hn0
    go_enter Tryz.func38, Tryz.ntmps38
    go_upto_region 3 with (first
      | (go_at_call 63; (with_reducible refine (text_cs k q t _ (gl_below hGl (bl HB.out)) H2.out (S1.out.up climb)).mono ?_); rintro _ w1 ⟨rfl, hb⟩; have HBx := Aside0.mk (below_step (bl HB.out) hb); have Kx := Aside0.mk (blk_below (blk_below K.out climb) hb); have S1x := Aside0.mk ((S1.out.up climb).up hb); clear HB K S1 hb ; have HB := HBx; have K := Kx; have S1 := S1x; clear HBx Kx S1x; have k0 := (blk_cell K.out 0).trans rfl; have k1 := (blk_cell K.out 1).trans rfl)
      | (go_at_call 62; (with_reducible refine (strings_Repeat.calls _ _ z _ (gl_below hGl (bl HB.out)) H3.out).mono ?_); rintro _ w2 ⟨rfl, hb⟩; have HBx := Aside0.mk (below_step (bl HB.out) hb); have Kx := Aside0.mk (blk_below (blk_below K.out climb) hb); have S1x := Aside0.mk ((S1.out.up climb).up hb); clear HB K S1 hb k0 k1; have HB := HBx; have K := Kx; have S1 := S1x; clear HBx Kx S1x; have k0 := (blk_cell K.out 0).trans rfl; have k1 := (blk_cell K.out 1).trans rfl))
    rw [HS.out]
    clear hmx hpos hpos2 q1 q2
    by_cases hp0 : 0 < p
    · have r1 : (0 < (p : Int)) = True := eq_true (by omega)
      have r2 : (0 < p) = True := eq_true hp0
      obtain ⟨n, hn⟩ : ∃ n, s.size - p = n := ⟨_, rfl⟩
      have hn1 : (s.size : Int) - (p : Int) = (n : Int) := by omega
      have hn2 : IntKind.i64.wrap ((s.size : Int) - (p : Int)) = (n : Int) := by rw [hn1]; exact IntWalk.i64_in _ (by omega)
      have hn4 : IntKind.i64.wrap (n : Int) = (n : Int) := IntWalk.i64_in _ (by omega)
      have y8 : ((0 : Int) ≤ (n : Int)) = True := eq_true (by omega)
      have y9 : ((n : Int) < 0) = False := eq_false (by omega)
      have hn3 : n ≤ s.size := by omega
      have y1 : (n ≤ s.size) = True := eq_true hn3
      have y2 : (s.size < n) = False := eq_false (by omega)
      have y3 : ((n : Int) ≤ (s.size : Int)) = True := eq_true (by omega)
      have y4 : ((s.size : Int) < (n : Int)) = False := eq_false (by omega)
      have y5 : decide ((n : Int) ≤ (s.size : Int)) = true := decide_eq_true (by omega)
      have y6 : decide (n ≤ s.size) = true := decide_eq_true hn3
      have y7 : decide (s.size < n) = false := decide_eq_false (by omega)
      unfold decS at h
      rw [if_pos hp0, hn] at h
      have h5 : (s.extract 0 n).size + 1 ≤ 9223372036854775807 := by rw [ByteArray.size_extract]; omega
      have h6 : min n s.size + 1 + (s.size - n) ≤ 9223372036854775807 := by omega
      go_upto_region 4 with (fail)
      go_region_with (fail)
      obtain ⟨s2, hs2⟩ : ∃ s2, s.extract 0 n ++ (⟨#[46]⟩ : ByteArray) ++ s.extract n s.size = s2 := ⟨_, rfl⟩
      have hz2 : s2.size ≤ 500000 := by rw [← hs2, ByteArray.size_append, ByteArray.size_append, ByteArray.size_extract, ByteArray.size_extract]; show min n s.size - 0 + 1 + (min s.size s.size - n) ≤ 500000; omega
      rw [hs2] at h ⊢
      clear hs2 y1 y2 y3 y4 y5 y6 y7 y8 y9 hn hn1 hn2 hn3 hn4 h5 h6
      have h7 : 1 + s2.size ≤ 9223372036854775807 := by omega
      cases m with
      | false =>
        rw [if_neg (by simp)] at h
        subst h
        go_wp2
        go_ret
        exact ⟨rfl, bl HB.out⟩
      | true =>
        cases e with
        | true =>
          rw [if_neg (by simp)] at h
          subst h
          go_wp2_with (first | (go_at_call 34; (with_reducible refine (zero_cs q _ _ (gl_below hGl (bl HB.out)) H4.out (S1.out.up climb)).mono ?_); rintro _ w3 ⟨rfl, hb⟩; have HBx := Aside0.mk (below_step (bl HB.out) hb); have Kx := Aside0.mk (blk_below (blk_below K.out climb) hb); have S1x := Aside0.mk ((S1.out.up climb).up hb); clear HB K S1 hb k0 k1; have HB := HBx; have K := Kx; have S1 := S1x; clear HBx Kx S1x; have k0 := (blk_cell K.out 0).trans rfl; have k1 := (blk_cell K.out 1).trans rfl))
          go_ret
          exact ⟨rfl, bl HB.out⟩
        | false =>
          rw [if_pos (by simp)] at h
          subst h
          go_wp2_with (first | (go_at_call 34; (with_reducible refine (zero_cs q _ _ (gl_below hGl (bl HB.out)) H4.out (S1.out.up climb)).mono ?_); rintro _ w3 ⟨rfl, hb⟩; have HBx := Aside0.mk (below_step (bl HB.out) hb); have Kx := Aside0.mk (blk_below (blk_below K.out climb) hb); have S1x := Aside0.mk ((S1.out.up climb).up hb); clear HB K S1 hb k0 k1; have HB := HBx; have K := Kx; have S1 := S1x; clear HBx Kx S1x; have k0 := (blk_cell K.out 0).trans rfl; have k1 := (blk_cell K.out 1).trans rfl))
          go_ret
          exact ⟨rfl, bl HB.out⟩
    · have r1 : (0 < (p : Int)) = False := eq_false (by omega)
      have r2 : (0 < p) = False := eq_false hp0
      unfold decS at h
      rw [if_neg hp0] at h
      have hz2 : s.size ≤ 500000 := by omega
      have h7 : 1 + s.size ≤ 9223372036854775807 := by omega
      cases m with
      | false =>
        rw [if_neg (by simp)] at h
        subst h
        go_wp2
        go_ret
        exact ⟨rfl, bl HB.out⟩
      | true =>
        cases e with
        | true =>
          rw [if_neg (by simp)] at h
          subst h
          go_wp2_with (first | (go_at_call 34; (with_reducible refine (zero_cs q _ _ (gl_below hGl (bl HB.out)) H4.out (S1.out.up climb)).mono ?_); rintro _ w3 ⟨rfl, hb⟩; have HBx := Aside0.mk (below_step (bl HB.out) hb); have Kx := Aside0.mk (blk_below (blk_below K.out climb) hb); have S1x := Aside0.mk ((S1.out.up climb).up hb); clear HB K S1 hb k0 k1; have HB := HBx; have K := Kx; have S1 := S1x; clear HBx Kx S1x; have k0 := (blk_cell K.out 0).trans rfl; have k1 := (blk_cell K.out 1).trans rfl))
          go_ret
          exact ⟨rfl, bl HB.out⟩
        | false =>
          rw [if_pos (by simp)] at h
          subst h
          go_wp2_with (first | (go_at_call 34; (with_reducible refine (zero_cs q _ _ (gl_below hGl (bl HB.out)) H4.out (S1.out.up climb)).mono ?_); rintro _ w3 ⟨rfl, hb⟩; have HBx := Aside0.mk (below_step (bl HB.out) hb); have Kx := Aside0.mk (blk_below (blk_below K.out climb) hb); have S1x := Aside0.mk ((S1.out.up climb).up hb); clear HB K S1 hb k0 k1; have HB := HBx; have K := Kx; have S1 := S1x; clear HBx Kx S1x; have k0 := (blk_cell K.out 0).trans rfl; have k1 := (blk_cell K.out 1).trans rfl))
          go_ret
          exact ⟨rfl, bl HB.out⟩
  · obtain rfl : n0 = 0 := by omega
    have h3_ : strings_Repeat.f ⟨#[48]⟩ 0 = some z := H3.out
    clear H3
    have H3 := Aside0.mk h3_
    clear h3_
    have q1 : ((t.size : Int) < (p : Int) + 1) = False := eq_false (by omega)
    have q2 : (t.size < p + 1) = False := eq_false (by omega)
    have q3 : (0 < (p : Int) + 1 - (t.size : Int)) = False := eq_false (by omega)
    clear hlt hn0
    go_enter Tryz.func38, Tryz.ntmps38
    go_upto_region 3 with (first
      | (go_at_call 63; (with_reducible refine (text_cs k q t _ (gl_below hGl (bl HB.out)) H2.out (S1.out.up climb)).mono ?_); rintro _ w1 ⟨rfl, hb⟩; have HBx := Aside0.mk (below_step (bl HB.out) hb); have Kx := Aside0.mk (blk_below (blk_below K.out climb) hb); have S1x := Aside0.mk ((S1.out.up climb).up hb); clear HB K S1 hb ; have HB := HBx; have K := Kx; have S1 := S1x; clear HBx Kx S1x; have k0 := (blk_cell K.out 0).trans rfl; have k1 := (blk_cell K.out 1).trans rfl)
      | (go_at_call 62; (with_reducible refine (strings_Repeat.calls _ _ z _ (gl_below hGl (bl HB.out)) H3.out).mono ?_); rintro _ w2 ⟨rfl, hb⟩; have HBx := Aside0.mk (below_step (bl HB.out) hb); have Kx := Aside0.mk (blk_below (blk_below K.out climb) hb); have S1x := Aside0.mk ((S1.out.up climb).up hb); clear HB K S1 hb k0 k1; have HB := HBx; have K := Kx; have S1 := S1x; clear HBx Kx S1x; have k0 := (blk_cell K.out 0).trans rfl; have k1 := (blk_cell K.out 1).trans rfl))
    rw [HS.out]
    clear q1 q2 q3
    by_cases hp0 : 0 < p
    · have r1 : (0 < (p : Int)) = True := eq_true (by omega)
      have r2 : (0 < p) = True := eq_true hp0
      obtain ⟨n, hn⟩ : ∃ n, s.size - p = n := ⟨_, rfl⟩
      have hn1 : (s.size : Int) - (p : Int) = (n : Int) := by omega
      have hn2 : IntKind.i64.wrap ((s.size : Int) - (p : Int)) = (n : Int) := by rw [hn1]; exact IntWalk.i64_in _ (by omega)
      have hn4 : IntKind.i64.wrap (n : Int) = (n : Int) := IntWalk.i64_in _ (by omega)
      have y8 : ((0 : Int) ≤ (n : Int)) = True := eq_true (by omega)
      have y9 : ((n : Int) < 0) = False := eq_false (by omega)
      have hn3 : n ≤ s.size := by omega
      have y1 : (n ≤ s.size) = True := eq_true hn3
      have y2 : (s.size < n) = False := eq_false (by omega)
      have y3 : ((n : Int) ≤ (s.size : Int)) = True := eq_true (by omega)
      have y4 : ((s.size : Int) < (n : Int)) = False := eq_false (by omega)
      have y5 : decide ((n : Int) ≤ (s.size : Int)) = true := decide_eq_true (by omega)
      have y6 : decide (n ≤ s.size) = true := decide_eq_true hn3
      have y7 : decide (s.size < n) = false := decide_eq_false (by omega)
      unfold decS at h
      rw [if_pos hp0, hn] at h
      have h5 : (s.extract 0 n).size + 1 ≤ 9223372036854775807 := by rw [ByteArray.size_extract]; omega
      have h6 : min n s.size + 1 + (s.size - n) ≤ 9223372036854775807 := by omega
      go_upto_region 4 with (fail)
      go_region_with (fail)
      obtain ⟨s2, hs2⟩ : ∃ s2, s.extract 0 n ++ (⟨#[46]⟩ : ByteArray) ++ s.extract n s.size = s2 := ⟨_, rfl⟩
      have hz2 : s2.size ≤ 500000 := by rw [← hs2, ByteArray.size_append, ByteArray.size_append, ByteArray.size_extract, ByteArray.size_extract]; show min n s.size - 0 + 1 + (min s.size s.size - n) ≤ 500000; omega
      rw [hs2] at h ⊢
      clear hs2 y1 y2 y3 y4 y5 y6 y7 y8 y9 hn hn1 hn2 hn3 hn4 h5 h6
      have h7 : 1 + s2.size ≤ 9223372036854775807 := by omega
      cases m with
      | false =>
        rw [if_neg (by simp)] at h
        subst h
        go_wp2
        go_ret
        exact ⟨rfl, bl HB.out⟩
      | true =>
        cases e with
        | true =>
          rw [if_neg (by simp)] at h
          subst h
          go_wp2_with (first | (go_at_call 34; (with_reducible refine (zero_cs q _ _ (gl_below hGl (bl HB.out)) H4.out (S1.out.up climb)).mono ?_); rintro _ w3 ⟨rfl, hb⟩; have HBx := Aside0.mk (below_step (bl HB.out) hb); have Kx := Aside0.mk (blk_below (blk_below K.out climb) hb); have S1x := Aside0.mk ((S1.out.up climb).up hb); clear HB K S1 hb k0 k1; have HB := HBx; have K := Kx; have S1 := S1x; clear HBx Kx S1x; have k0 := (blk_cell K.out 0).trans rfl; have k1 := (blk_cell K.out 1).trans rfl))
          go_ret
          exact ⟨rfl, bl HB.out⟩
        | false =>
          rw [if_pos (by simp)] at h
          subst h
          go_wp2_with (first | (go_at_call 34; (with_reducible refine (zero_cs q _ _ (gl_below hGl (bl HB.out)) H4.out (S1.out.up climb)).mono ?_); rintro _ w3 ⟨rfl, hb⟩; have HBx := Aside0.mk (below_step (bl HB.out) hb); have Kx := Aside0.mk (blk_below (blk_below K.out climb) hb); have S1x := Aside0.mk ((S1.out.up climb).up hb); clear HB K S1 hb k0 k1; have HB := HBx; have K := Kx; have S1 := S1x; clear HBx Kx S1x; have k0 := (blk_cell K.out 0).trans rfl; have k1 := (blk_cell K.out 1).trans rfl))
          go_ret
          exact ⟨rfl, bl HB.out⟩
    · have r1 : (0 < (p : Int)) = False := eq_false (by omega)
      have r2 : (0 < p) = False := eq_false hp0
      unfold decS at h
      rw [if_neg hp0] at h
      have hz2 : s.size ≤ 500000 := by omega
      have h7 : 1 + s.size ≤ 9223372036854775807 := by omega
      cases m with
      | false =>
        rw [if_neg (by simp)] at h
        subst h
        go_wp2
        go_ret
        exact ⟨rfl, bl HB.out⟩
      | true =>
        cases e with
        | true =>
          rw [if_neg (by simp)] at h
          subst h
          go_wp2_with (first | (go_at_call 34; (with_reducible refine (zero_cs q _ _ (gl_below hGl (bl HB.out)) H4.out (S1.out.up climb)).mono ?_); rintro _ w3 ⟨rfl, hb⟩; have HBx := Aside0.mk (below_step (bl HB.out) hb); have Kx := Aside0.mk (blk_below (blk_below K.out climb) hb); have S1x := Aside0.mk ((S1.out.up climb).up hb); clear HB K S1 hb k0 k1; have HB := HBx; have K := Kx; have S1 := S1x; clear HBx Kx S1x; have k0 := (blk_cell K.out 0).trans rfl; have k1 := (blk_cell K.out 1).trans rfl))
          go_ret
          exact ⟨rfl, bl HB.out⟩
        | false =>
          rw [if_pos (by simp)] at h
          subst h
          go_wp2_with (first | (go_at_call 34; (with_reducible refine (zero_cs q _ _ (gl_below hGl (bl HB.out)) H4.out (S1.out.up climb)).mono ?_); rintro _ w3 ⟨rfl, hb⟩; have HBx := Aside0.mk (below_step (bl HB.out) hb); have Kx := Aside0.mk (blk_below (blk_below K.out climb) hb); have S1x := Aside0.mk ((S1.out.up climb).up hb); clear HB K S1 hb k0 k1; have HB := HBx; have K := Kx; have S1 := S1x; clear HBx Kx S1x; have k0 := (blk_cell K.out 0).trans rfl; have k1 := (blk_cell K.out 1).trans rfl))
          go_ret
          exact ⟨rfl, bl HB.out⟩
end Go.Proofs.YtckfdhnimmaeiaaGreatDoor.Pr
