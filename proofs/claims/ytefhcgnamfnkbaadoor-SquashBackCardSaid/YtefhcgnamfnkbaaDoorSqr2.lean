/- slices.rotateCmpFunc, symMergeCmpFunc at squash.bundle, walked by hand. -/
import Derived.Test.YtefhcgnamfnkbaaDoorSqr
namespace Go.Proofs.YtefhcgnamfnkbaaDoor.Pr
open Go.RowKit Go.Proofs.YtefhcgnamfnkbaaDoorW.PrintWords Go.Proofs.YtefhcgnamfnkbaaDoorW.PrintLast Go.Proofs.YtefhcgnamfnkbaaDoorW.PrintMore
set_option linter.unusedVariables false
set_option linter.unusedSimpArgs false
variable {w w' : World} {g n : Nat} {Q : Option Addr → Nat → Nat → Prop}
set_option maxHeartbeats 16000000 in
set_option maxRecDepth 100000 in
theorem sym_two (cap : Nat) (hn : n ≤ 1000000) (a m b : Nat) (w : World) (h : Bv w g n Q) (ham : a < m) (hmb : m < b) (hb : b ≤ n) (c1 : ¬ (m : Int) - a = 1) (c2 : (b : Int) - m = 1) :
    Calls Tryd.prog 132 #[.slice (some ⟨g, 0, none⟩) n cap, .int .i64 (a : Int), .int .i64 (m : Int), .int .i64 (b : Int), .func (.func 75) #[] #[]] w fun r w' => r = .returned (.tuple #[]) ∧ Bv w' g n Q ∧ Ap w.heap.size g w w' := by
  have cq1 : ((m : Int) - a == 1) = false := beq_eq_false_iff_ne.2 c1
  have H := Aside0.mk h
  clear h
  go_enter Tryd.func132, Tryd.ntmps132
  go_wp2_with (fail)
  go_loopg [14, 15] (m - a) (fun kq v14 v15 w' => ∃ (i j : Nat), v14 = .int .i64 (i : Int) ∧ v15 = .int .i64 (j : Int) ∧ a ≤ i ∧ i ≤ j ∧ j ≤ m ∧ j ≤ i + kq ∧ Aside0 (Bv w' g n Q) ∧ Aside0 (Ap w.heap.size g w w'))
  case atStart => exact ⟨a, m, rfl, rfl, by omega, by omega, by omega, by omega, H, ⟨Ap.refl _ _ _⟩⟩
  case round =>
    clear H
    obtain ⟨i, j, rfl, rfl, hi, hij, hj, hk, S, SA⟩ := hrel
    by_cases hlt : i < j
    · go_upto_region 17 with (fail)
      obtain ⟨hh, eh⟩ : ∃ hh : Nat, ((i : Int) + j) / 2 = (hh : Int) := ⟨(i + j) / 2, by omega⟩
      rw [eh]
      have hh1 : i ≤ hh := by omega
      have hh2 : hh < j := by omega
      clear eh
      have r1 : (hh : Int) < n := by omega
      have r2 : (m : Int) < n := by omega
      obtain ⟨x1, A1, l1, c1', k0, k1, _⟩ := S.out.at_ (i := m) (by omega)
      obtain ⟨x2, A2, l2, c2', k2, k3, _⟩ := S.out.at_ (i := hh) (by omega)
      have L0 := Aside0.mk (two_cells k0 k1 k2 k3)
      go_region_held3 (fun w' => w'.cell? ⟨g, m * 2, none⟩ = some (.int .i64 x1) ∧ w'.cell? ⟨g, m * 2 + 1, none⟩ = some (.slice A1 l1 c1') ∧ w'.cell? ⟨g, hh * 2, none⟩ = some (.int .i64 x2) ∧ w'.cell? ⟨g, hh * 2 + 1, none⟩ = some (.slice A2 l2 c2')) (first | exact L0.out _ HB.out | exact L0.out _ (bl HB.out) | exact L0.out _ climb) (first | (go_at_call 75; (with_reducible refine (cmp_calls x1 x2 A1 A2 l1 c1' l2 c2' _).mono ?_); rintro _ w1 ⟨rfl, hb1⟩; have HB := Aside0.mk (show Below wr.heap.size wr w1 from below_step climb hb1); clear hb1))
      have S_ := Aside0.mk (S.out.up HB.out)
      have SA_ := Aside0.mk (SA.out.climb HB.out)
      clear S SA k0 k1 k2 k3 L0 HB
      have S := S_
      have SA := SA_
      clear S_ SA_
      by_cases hz : wrap64 (x1 - x2) < 0
      · have hz2 : decide (wrap64 (x1 - x2) < 0) = true := decide_eq_true hz
        clear hz
        simp only [hz2, Bool.not_true]
        go_wp2
        go_roundg (hh - i)
        case measure => omega
        case rel => exact ⟨i, hh, rfl, rfl, by omega, by omega, by omega, by omega, ⟨S.out.up climb⟩, ⟨SA.out.climb climb⟩⟩
      · have hz2 : decide (wrap64 (x1 - x2) < 0) = false := decide_eq_false hz
        clear hz
        simp only [hz2, Bool.not_false]
        go_wp2
        go_roundg (j - (hh + 1))
        case measure => omega
        case rel => exact ⟨hh + 1, j, by go_num, rfl, by omega, by omega, by omega, by omega, ⟨S.out.up climb⟩, ⟨SA.out.climb climb⟩⟩
    · go_wp2_with (fail)
      go_loopg [17] m (fun kq v17 w' => v17 = .int .i64 (kq : Int) ∧ i ≤ kq ∧ kq ≤ m ∧ Aside0 (Bv w' g n Q) ∧ Aside0 (Ap w.heap.size g w w'))
      case atStart => exact ⟨rfl, by omega, by omega, ⟨S.out.up climb⟩, ⟨SA.out.climb climb⟩⟩
      case round =>
        clear S SA
        obtain ⟨rfl, hak, hik, S, SA⟩ := hrel
        by_cases hk2 : i < gk
        · have r0 : ((gk : Int) - 1).toNat = gk - 1 := by omega
          have r1 : 0 ≤ (gk : Int) - 1 := by omega
          have r2 : (gk : Int) - 1 < n := by omega
          have r3 : (gk : Int) < n := by omega
          obtain ⟨x1, A1, l1, c1', k0, k1, q1⟩ := S.out.at_ (i := gk) (by omega)
          obtain ⟨x2, A2, l2, c2', k2, k3, q2⟩ := S.out.at_ (i := gk - 1) (by omega)
          have f0 := S.out.free (gk * 2)
          have f1 := S.out.free (gk * 2 + 1)
          have f2 := S.out.free ((gk - 1) * 2)
          have f3 := S.out.free ((gk - 1) * 2 + 1)
          have S1 := Aside0.mk (S.out.put (i := gk) (by omega) x2 q2)
          have S2 := Aside0.mk (S.out.put (i := gk - 1) (by omega) x1 q1)
          obtain ⟨y1, B1, m1, d1, k4, k5, _⟩ := S1.out.at_ (i := gk - 1) (by omega)
          obtain ⟨y2, B2, m2, d2, k6, k7, _⟩ := S2.out.at_ (i := gk) (by omega)
          have T1 := Aside0.mk (S1.out.put (i := gk - 1) (by omega) x1 q1)
          have T2 := Aside0.mk (S2.out.put (i := gk) (by omega) x2 q2)
          clear q1 q2
          go_upto_region 23 with (fail)
          go_region
          all_goals
            (try go_wp2)
            go_roundg (gk - 1)
            case measure => omega
            case rel => first
              | exact ⟨by congr 1; omega, by omega, by omega, ⟨T1.out.up climb⟩, ⟨SA.out.seq (Ap.climb (ap_set2 (ap_set2 (Ap.refl _ _ _))) climb)⟩⟩
              | exact ⟨by congr 1; omega, by omega, by omega, ⟨T2.out.up climb⟩, ⟨SA.out.seq (Ap.climb (ap_set2 (ap_set2 (Ap.refl _ _ _))) climb)⟩⟩
        · go_wp2
          (try simp only [Exit.inBlock, Exit.then])
          refine bodyPost_ret (results_none rfl _ _ _) rfl ?_
          exact ⟨rfl, S.out.up climb, SA.out.climb climb⟩
end Go.Proofs.YtefhcgnamfnkbaaDoor.Pr
