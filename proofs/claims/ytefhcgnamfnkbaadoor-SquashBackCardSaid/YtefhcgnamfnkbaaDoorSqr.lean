/- slices.rotateCmpFunc, symMergeCmpFunc at squash.bundle, walked by hand. -/
import Derived.Test.YtefhcgnamfnkbaaDoorSqt
namespace Go.Proofs.YtefhcgnamfnkbaaDoor.Pr
open Go.RowKit Go.Proofs.YtefhcgnamfnkbaaDoorW.PrintWords Go.Proofs.YtefhcgnamfnkbaaDoorW.PrintLast Go.Proofs.YtefhcgnamfnkbaaDoorW.PrintMore
set_option linter.unusedVariables false
set_option linter.unusedSimpArgs false
variable {w w' : World} {g n : Nat} {Q : Option Addr → Nat → Nat → Prop}
theorem swapRange_i (fv : Value) (a b m : Int) (cap : Nat) (w : World) (h : Bv w g n Q) (a0 : 0 ≤ a) (b0 : 0 ≤ b) (m0 : 0 ≤ m) (ha : a + m ≤ n) (hb : b + m ≤ n) (hn : n ≤ 1000000) :
    Calls Tryd.prog 157 #[.slice (some ⟨g, 0, none⟩) n cap, .int .i64 a, .int .i64 b, .int .i64 m, fv] w fun r w' => r = .returned (.tuple #[]) ∧ Bv w' g n Q ∧ Ap w.heap.size g w w' := by
  obtain ⟨a, rfl⟩ := Int.eq_ofNat_of_zero_le a0
  obtain ⟨b, rfl⟩ := Int.eq_ofNat_of_zero_le b0
  obtain ⟨m, rfl⟩ := Int.eq_ofNat_of_zero_le m0
  exact swapRange_calls fv a b m cap w h (by omega) (by omega) hn
set_option maxHeartbeats 8000000 in
set_option maxRecDepth 100000 in
theorem rotate_calls (fv : Value) (a m b : Int) (cap : Nat) (w : World) (h : Bv w g n Q) (a0 : 0 ≤ a) (ham : a < m) (hmb : m < b) (hb : b ≤ n) (hn : n ≤ 1000000) :
    Calls Tryd.prog 148 #[.slice (some ⟨g, 0, none⟩) n cap, .int .i64 a, .int .i64 m, .int .i64 b, fv] w fun r w' => r = .returned (.tuple #[]) ∧ Bv w' g n Q ∧ Ap w.heap.size g w w' := by
  have H := Aside0.mk h
  clear h
  go_enter Tryd.func148, Tryd.ntmps148
  go_wp2_with (fail)
  go_loopg [10, 11] (b - a).toNat (fun kq v10 v11 w' => ∃ (i j : Int), v10 = .int .i64 i ∧ v11 = .int .i64 j ∧ 1 ≤ i ∧ 1 ≤ j ∧ i ≤ m - a ∧ j ≤ b - m ∧ i + j ≤ kq ∧ Aside0 (Bv w' g n Q) ∧ Aside0 (Ap w.heap.size g w w'))
  case atStart => exact ⟨m - a, b - m, rfl, rfl, by omega, by omega, by omega, by omega, by omega, H, ⟨Ap.refl _ _ _⟩⟩
  case round =>
    clear H
    obtain ⟨i, j, rfl, rfl, hi1, hj1, hi2, hj2, hk, S, SA⟩ := hrel
    by_cases he : i = j
    · have q : (i != j) = false := by simp [he]
      have HE := Aside0.mk he
      clear he
      go_wp2_with (first | (go_at_call 157; (with_reducible refine (swapRange_i fv _ _ _ cap _ (S.out.up climb) (by omega) (by omega) (by omega) (by omega) (by have := HE.out; omega) hn).mono ?_); rintro _ w1 ⟨rfl, S', A'⟩; have S1 := Aside0.mk S'; have SA1 := Aside0.mk ((SA.out.climb climb).seq A'); clear S' A'))
      go_end0
      exact ⟨rfl, S1.out.up climb, SA1.out.climb climb⟩
    · have q : (i != j) = true := by simp [he]
      have HE := Aside0.mk he
      clear he
      by_cases hij : i > j
      · go_wp2_with (first | (go_at_call 157; (with_reducible refine (swapRange_i fv _ _ _ cap _ (S.out.up climb) (by omega) (by omega) (by omega) (by omega) (by omega) hn).mono ?_); rintro _ w1 ⟨rfl, S', A'⟩; have S1 := Aside0.mk S'; have SA1 := Aside0.mk ((SA.out.climb climb).seq A'); clear S' A'))
        go_roundg i.toNat
        case measure => omega
        case rel => exact ⟨i - j, j, rfl, rfl, by omega, by omega, by omega, by omega, by omega, S1, SA1⟩
      · have hij2 : i < j := by have := HE.out; omega
        go_wp2_with (first | (go_at_call 157; (with_reducible refine (swapRange_i fv _ _ _ cap _ (S.out.up climb) (by omega) (by omega) (by omega) (by omega) (by omega) hn).mono ?_); rintro _ w1 ⟨rfl, S', A'⟩; have S1 := Aside0.mk S'; have SA1 := Aside0.mk ((SA.out.climb climb).seq A'); clear S' A'))
        go_roundg j.toNat
        case measure => omega
        case rel => exact ⟨i, j - i, rfl, rfl, by omega, by omega, by omega, by omega, by omega, S1, SA1⟩
end Go.Proofs.YtefhcgnamfnkbaaDoor.Pr
