/- slices.insertionSortCmpFunc at squash.bundle, walked by hand. -/
import Derived.Test.YtefhcgnamfnkbaaDoorSqs
namespace Go.Proofs.YtefhcgnamfnkbaaDoor.Pr
open Go.RowKit Go.Proofs.YtefhcgnamfnkbaaDoorW.PrintWords Go.Proofs.YtefhcgnamfnkbaaDoorW.PrintLast Go.Proofs.YtefhcgnamfnkbaaDoorW.PrintMore
set_option linter.unusedVariables false
set_option linter.unusedSimpArgs false
variable {w w' : World} {g n : Nat} {Q : Option Addr → Nat → Nat → Prop}
theorem Bv.ap (h : Bv w g n Q) (k : Below w.heap.size w w') : Bv w' g n Q := h.up k
/-- Two bundles' cells, in whatever memory has grown since. -/
theorem two_cells {i j : Nat} {x1 x2 : Int} {A1 A2 : Option Addr} {l1 c1 l2 c2 : Nat} (k0 : w.cell? ⟨g, i * 2, none⟩ = some (.int .i64 x1)) (k1 : w.cell? ⟨g, i * 2 + 1, none⟩ = some (.slice A1 l1 c1)) (k2 : w.cell? ⟨g, j * 2, none⟩ = some (.int .i64 x2)) (k3 : w.cell? ⟨g, j * 2 + 1, none⟩ = some (.slice A2 l2 c2)) (w' : World) (k : Below w.heap.size w w') :
    w'.cell? ⟨g, i * 2, none⟩ = some (.int .i64 x1) ∧ w'.cell? ⟨g, i * 2 + 1, none⟩ = some (.slice A1 l1 c1) ∧ w'.cell? ⟨g, j * 2, none⟩ = some (.int .i64 x2) ∧ w'.cell? ⟨g, j * 2 + 1, none⟩ = some (.slice A2 l2 c2) :=
  have hg : g < w.heap.size := World.block_lt_of_cell? w _ k0
  ⟨(k.cell (p := ⟨g, i * 2, none⟩) hg).trans k0, (k.cell (p := ⟨g, i * 2 + 1, none⟩) hg).trans k1, (k.cell (p := ⟨g, j * 2, none⟩) hg).trans k2, (k.cell (p := ⟨g, j * 2 + 1, none⟩) hg).trans k3⟩
set_option maxHeartbeats 8000000 in
set_option maxRecDepth 100000 in
theorem insertion_calls (a b cap : Nat) (w : World) (h : Bv w g n Q) (hab : a ≤ b) (hb : b ≤ n) (hn : n ≤ 1000000) :
    Calls Tryd.prog 131 #[.slice (some ⟨g, 0, none⟩) n cap, .int .i64 (a : Int), .int .i64 (b : Int), .func (.func 75) #[] #[]] w fun r w' => r = .returned (.tuple #[]) ∧ Bv w' g n Q ∧ Ap w.heap.size g w w' := by
  have H := Aside0.mk h
  clear h
  go_enter Tryd.func131, Tryd.ntmps131
  go_wp2_with (fail)
  go_loopg [8] b (fun kq v8 w' => ∃ (i : Nat), v8 = .int .i64 (i : Int) ∧ b ≤ i + kq ∧ a < i ∧ i ≤ b + 1 ∧ Aside0 (Bv w' g n Q) ∧ Aside0 (Ap w.heap.size g w w'))
  case atStart => exact ⟨a + 1, by go_num, by omega, by omega, by omega, H, ⟨Ap.refl _ _ _⟩⟩
  case round =>
    clear H
    obtain ⟨i, rfl, hk, hai, hib, S, SA⟩ := hrel
    by_cases hi : i < b
    · go_wp2_with (fail)
      go_loopg [9] i (fun kq v9 w' => v9 = .int .i64 (kq : Int) ∧ a ≤ kq ∧ kq ≤ i ∧ Aside0 (Bv w' g n Q) ∧ Aside0 (Ap w.heap.size g w w'))
      case atStart => exact ⟨rfl, by omega, by omega, S, SA⟩
      case round =>
        clear S SA
        obtain ⟨rfl, hak, hki, S, SA⟩ := hrel
        by_cases hj : a < gk
        · obtain ⟨x1, A1, l1, c1, k0, k1, q1⟩ := S.out.at_ (i := gk) (by omega)
          obtain ⟨x2, A2, l2, c2, k2, k3, q2⟩ := S.out.at_ (i := gk - 1) (by omega)
          have L0 := Aside0.mk (two_cells k0 k1 k2 k3)
          have r0 : ((gk : Int) - 1).toNat = gk - 1 := by omega
          have r1 : 0 ≤ (gk : Int) - 1 := by omega
          have r2 : (gk : Int) - 1 < n := by omega
          have r3 : (gk : Int) < n := by omega
          have hd : decide ((a : Int) < (gk : Int)) = true := decide_eq_true (by omega)
          have Q1 := Aside0.mk q1
          have Q2 := Aside0.mk q2
          clear q1 q2
          go_upto_region 4 with (fail)
          have r5 : IntKind.i64.wrap ((gk : Int) - 1) = (gk : Int) - 1 := by rw [IntKind.wrap_i64]; omega
          have r6 : (0 : Int) ≤ (gk : Int) := by omega
          have r7 : (1 : Int) ≤ (gk : Int) := by omega
          go_region_held3 (fun w' => w'.cell? ⟨g, gk * 2, none⟩ = some (.int .i64 x1) ∧ w'.cell? ⟨g, gk * 2 + 1, none⟩ = some (.slice A1 l1 c1) ∧ w'.cell? ⟨g, (gk - 1) * 2, none⟩ = some (.int .i64 x2) ∧ w'.cell? ⟨g, (gk - 1) * 2 + 1, none⟩ = some (.slice A2 l2 c2)) (first | exact L0.out _ HB.out | exact L0.out _ (bl HB.out) | exact L0.out _ climb) (first | (go_at_call 75; (with_reducible refine (cmp_calls x1 x2 A1 A2 l1 c1 l2 c2 _).mono ?_); rintro _ w1 ⟨rfl, hb1⟩; have HB := Aside0.mk (show Below wr.heap.size wr w1 from below_step climb hb1); clear hb1))
          have H3 := L0.out _ HB.out
          have S_ := Aside0.mk (S.out.up HB.out)
          have SA_ := Aside0.mk (SA.out.climb HB.out)
          clear S SA k0 k1 k2 k3 L0 HB r5 r6 r7
          have S := S_
          have SA := SA_
          clear S_ SA_
          obtain ⟨k0, k1, k2, k3⟩ := H3
          by_cases hz : wrap64 (x1 - x2) < 0
          · have f0 := S.out.free (gk * 2)
            have f1 := S.out.free (gk * 2 + 1)
            have f2 := S.out.free ((gk - 1) * 2)
            have f3 := S.out.free ((gk - 1) * 2 + 1)
            have S1 := Aside0.mk (S.out.put (i := gk) (by omega) x2 Q2.out)
            have S2 := Aside0.mk (S.out.put (i := gk - 1) (by omega) x1 Q1.out)
            obtain ⟨y1, B1, m1, d1, k4, k5, _⟩ := S1.out.at_ (i := gk - 1) (by omega)
            obtain ⟨y2, B2, m2, d2, k6, k7, _⟩ := S2.out.at_ (i := gk) (by omega)
            have T1 := Aside0.mk (S1.out.put (i := gk - 1) (by omega) x1 Q1.out)
            have T2 := Aside0.mk (S2.out.put (i := gk) (by omega) x2 Q2.out)
            go_upto_region 6 with (fail)
            go_region
            all_goals
              (try go_wp2)
              go_roundg (gk - 1)
              case measure => omega
              case rel => first
                | exact ⟨by congr 1; omega, by omega, by omega, ⟨T1.out.up climb⟩, ⟨SA.out.seq (Ap.climb (ap_set2 (ap_set2 (Ap.refl _ _ _))) climb)⟩⟩
                | exact ⟨by congr 1; omega, by omega, by omega, ⟨T2.out.up climb⟩, ⟨SA.out.seq (Ap.climb (ap_set2 (ap_set2 (Ap.refl _ _ _))) climb)⟩⟩
          · go_wp2
            go_roundg (b - (i + 1))
            case measure => omega
            case rel => exact ⟨i + 1, by go_num, by omega, by omega, by omega, ⟨S.out.up climb⟩, ⟨SA.out.climb climb⟩⟩
        · have hd : decide ((a : Int) < (gk : Int)) = false := decide_eq_false (by omega)
          go_wp2
          repeat (go_quiet (fail); try go_wp2)
          go_roundg (b - (i + 1))
          case measure => omega
          case rel => exact ⟨i + 1, by go_num, by omega, by omega, by omega, ⟨S.out.up climb⟩, ⟨SA.out.climb climb⟩⟩
    · go_wp2
      go_end0
      exact ⟨rfl, S.out.up climb, SA.out.climb climb⟩
end Go.Proofs.YtefhcgnamfnkbaaDoor.Pr
