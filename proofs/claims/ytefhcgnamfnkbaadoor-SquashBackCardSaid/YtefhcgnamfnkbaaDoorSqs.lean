/- slices.SortStableFunc at squash.bundle, walked by hand: it moves bundles about, and no more. -/
import Derived.Test.YtefhcgnamfnkbaaDoorSqp
namespace Go.Proofs.YtefhcgnamfnkbaaDoor.Pr
open Go.RowKit Go.Proofs.YtefhcgnamfnkbaaDoorW.PrintWords Go.Proofs.YtefhcgnamfnkbaaDoorW.PrintLast Go.Proofs.YtefhcgnamfnkbaaDoorW.PrintMore
set_option linter.unusedVariables false
set_option linter.unusedSimpArgs false

/-- A block of bundles: a number and a slice each, of which Q holds. -/
def Bv (w : World) (g n : Nat) (Q : Option Addr → Nat → Nat → Prop) : Prop := ∃ cs : Array Value, w.heap[g]? = some (.cells cs 137 (0, 0)) ∧ 2 * n ≤ cs.size ∧ ∀ i, i < n → ∃ a A l c, cs[2 * i]? = some (.int .i64 a) ∧ cs[2 * i + 1]? = some (.slice A l c) ∧ Q A l c
variable {w w' : World} {g n : Nat} {Q : Option Addr → Nat → Nat → Prop}
theorem Bv.up (h : Bv w g n Q) (k : Below w.heap.size w w') : Bv w' g n Q := by
  obtain ⟨cs, h1, h2⟩ := h
  exact ⟨cs, blk_below h1 k, h2⟩
theorem Bv.free (h : Bv w g n Q) (j : Nat) : w.frozen? ⟨g, j, none⟩ = false := by
  obtain ⟨cs, h1, h2⟩ := h
  exact blk_frozen h1 j
theorem Bv.at_ (h : Bv w g n Q) {i : Nat} (hi : i < n) : ∃ a A l c, w.cell? ⟨g, i * 2, none⟩ = some (.int .i64 a) ∧ w.cell? ⟨g, i * 2 + 1, none⟩ = some (.slice A l c) ∧ Q A l c := by
  obtain ⟨cs, h1, h2, h3⟩ := h
  obtain ⟨a, A, l, c, e1, e2, q⟩ := h3 i hi
  refine ⟨a, A, l, c, (blk_cell h1 (i * 2)).trans ?_, (blk_cell h1 (i * 2 + 1)).trans ?_, q⟩
  · rw [Nat.mul_comm]; exact e1
  · rw [Nat.mul_comm]; exact e2
theorem Bv.put (h : Bv w g n Q) {i : Nat} (hi : i < n) (x : Int) {A : Option Addr} {l c : Nat} (q : Q A l c) : Bv ((w.setCell ⟨g, i * 2, none⟩ (.int .i64 x)).setCell ⟨g, i * 2 + 1, none⟩ (.slice A l c)) g n Q := by
  obtain ⟨cs, h1, h2, h3⟩ := h
  refine ⟨_, blk_put (blk_put h1 (i * 2) _ rfl) (i * 2 + 1) _ rfl, by simpa using h2, fun j hj => ?_⟩
  by_cases hij : i = j
  · subst hij
    refine ⟨x, A, l, c, ?_, ?_, q⟩
    · simp [Array.getElem?_setIfInBounds, show ¬ i * 2 + 1 = 2 * i from by omega, show i * 2 = 2 * i from by omega, show 2 * i < cs.size from by omega]
    · simp [Array.getElem?_setIfInBounds, show i * 2 + 1 = 2 * i + 1 from by omega, show 2 * i + 1 < cs.size from by omega]
  · obtain ⟨a, B, m, d, e1, e2, q'⟩ := h3 j hj
    refine ⟨a, B, m, d, ?_, ?_, q'⟩
    · simp [Array.getElem?_setIfInBounds, show ¬ i * 2 + 1 = 2 * j from by omega, show ¬ i * 2 = 2 * j from by omega, e1]
    · simp [Array.getElem?_setIfInBounds, show ¬ i * 2 + 1 = 2 * j + 1 from by omega, show ¬ i * 2 = 2 * j + 1 from by omega, e2]
      intro he; omega
set_option maxHeartbeats 4000000 in
set_option maxRecDepth 100000 in
theorem cmp_calls (a b : Int) (A B : Option Addr) (l c m d : Nat) (w : World) :
    Calls Tryd.prog 75 #[.agg #[.int .i64 a, .slice A l c], .agg #[.int .i64 b, .slice B m d]] w fun r w' => r = .returned (.int .i64 (wrap64 (a - b))) ∧ Below w.heap.size w w' := by
  go_enter Tryd.func75, Tryd.ntmps75
  go_wp2
  go_ret
  exact ⟨rfl, climb⟩
set_option maxHeartbeats 8000000 in
set_option maxRecDepth 100000 in
theorem swapRange_calls (fv : Value) (a b m cap : Nat) (w : World) (h : Bv w g n Q) (ha : a + m ≤ n) (hb : b + m ≤ n) (hn : n ≤ 1000000) :
    Calls Tryd.prog 157 #[.slice (some ⟨g, 0, none⟩) n cap, .int .i64 (a : Int), .int .i64 (b : Int), .int .i64 (m : Int), fv] w fun r w' => r = .returned (.tuple #[]) ∧ Bv w' g n Q ∧ Ap w.heap.size g w w' := by
  have H := Aside0.mk h
  clear h
  go_enter Tryd.func157, Tryd.ntmps157
  go_wp2_with (fail)
  go_loopg [10] m (fun kq v10 w' => ∃ (i : Nat), v10 = .int .i64 (i : Int) ∧ i + kq = m ∧ Aside0 (Bv w' g n Q) ∧ Aside0 (Ap w.heap.size g w w'))
  case atStart => exact ⟨0, rfl, by omega, H, ⟨Ap.refl _ _ _⟩⟩
  case round =>
    clear H
    obtain ⟨i, rfl, hk, S, SA⟩ := hrel
    by_cases hi : i < m
    · obtain ⟨x1, A1, l1, c1, k0, k1, q1⟩ := S.out.at_ (i := a + i) (by omega)
      obtain ⟨x2, A2, l2, c2, k2, k3, q2⟩ := S.out.at_ (i := b + i) (by omega)
      have f0 := S.out.free ((a + i) * 2)
      have f1 := S.out.free ((a + i) * 2 + 1)
      have f2 := S.out.free ((b + i) * 2)
      have f3 := S.out.free ((b + i) * 2 + 1)
      have r1 : (a : Int) + i < n := by omega
      have r2 : (b : Int) + i < n := by omega
      have S1 := Aside0.mk (S.out.put (i := a + i) (by omega) x2 q2)
      have S2 := Aside0.mk (S.out.put (i := b + i) (by omega) x1 q1)
      obtain ⟨y1, B1, m1, d1, k4, k5, _⟩ := S1.out.at_ (i := b + i) (by omega)
      obtain ⟨y2, B2, m2, d2, k6, k7, _⟩ := S2.out.at_ (i := a + i) (by omega)
      have T1 := Aside0.mk (S1.out.put (i := b + i) (by omega) x1 q1)
      have T2 := Aside0.mk (S2.out.put (i := a + i) (by omega) x2 q2)
      clear q1 q2
      go_upto_region 3 with (fail)
      go_region
      all_goals
        (try go_wp2)
        go_roundg (m - (i + 1))
        case measure => omega
        case rel => first
          | exact ⟨i + 1, by go_num, by omega, ⟨T1.out.up climb⟩, ⟨SA.out.seq (Ap.climb (ap_set2 (ap_set2 (Ap.refl _ _ _))) climb)⟩⟩
          | exact ⟨i + 1, by go_num, by omega, ⟨T2.out.up climb⟩, ⟨SA.out.seq (Ap.climb (ap_set2 (ap_set2 (Ap.refl _ _ _))) climb)⟩⟩
    · go_wp2
      go_end0
      exact ⟨rfl, S.out.up climb, SA.out.climb climb⟩
end Go.Proofs.YtefhcgnamfnkbaaDoor.Pr
