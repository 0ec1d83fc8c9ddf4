/- slices.SortStableFunc at squash.bundle, exactly: what its row holds; swapRange, rotate. -/
import Derived.Test.YtefhcgnamfnkbaaDoorSba
import Derived.Test.YtefhcgnamfnkbaaDoorSqt
namespace Go.Proofs.YtefhcgnamfnkbaaDoor.Pr
open Go.RowKit Go.Proofs.YtefhcgnamfnkbaaDoorW.PrintWords Go.Proofs.YtefhcgnamfnkbaaDoorW.PrintLast Go.Proofs.YtefhcgnamfnkbaaDoorW.PrintMore
open Go.Proofs.YtefhcgnamfnkbaaDoor.Sb
set_option linter.unusedVariables false
set_option linter.unusedSimpArgs false
/-- A bundle in the row: its number, its first place, its slice. -/
structure El where
  key : Int
  idx : Nat
  A : Option Addr
  l : Nat
  c : Nat
def El.rk (e : El) : Int := e.key * 1048576 + e.idx
/-- The row's bundles, one by one. -/
def Bx (w : World) (g n : Nat) (f : Nat → El) : Prop := ∃ cs : Array Value, w.heap[g]? = some (.cells cs 137 (0, 0)) ∧ 2 * n ≤ cs.size ∧ ∀ i, i < n → cs[2 * i]? = some (.int .i64 (f i).key) ∧ cs[2 * i + 1]? = some (.slice (f i).A (f i).l (f i).c)
variable {w w' : World} {g n : Nat} {f f' : Nat → El}
theorem Bx.up (h : Bx w g n f) (k : Below w.heap.size w w') : Bx w' g n f := by
  obtain ⟨cs, h1, h2⟩ := h
  exact ⟨cs, blk_below h1 k, h2⟩
theorem Bx.free (h : Bx w g n f) (j : Nat) : w.frozen? ⟨g, j, none⟩ = false := by
  obtain ⟨cs, h1, h2⟩ := h
  exact blk_frozen h1 j
theorem Bx.at_ (h : Bx w g n f) {i : Nat} (hi : i < n) : w.cell? ⟨g, i * 2, none⟩ = some (.int .i64 (f i).key) ∧ w.cell? ⟨g, i * 2 + 1, none⟩ = some (.slice (f i).A (f i).l (f i).c) := by
  obtain ⟨cs, h1, h2, h3⟩ := h
  obtain ⟨e1, e2⟩ := h3 i hi
  refine ⟨(blk_cell h1 (i * 2)).trans ?_, (blk_cell h1 (i * 2 + 1)).trans ?_⟩
  · rw [Nat.mul_comm]; exact e1
  · rw [Nat.mul_comm]; exact e2
theorem Bx.put (h : Bx w g n f) {i : Nat} (hi : i < n) (e : El) : Bx ((w.setCell ⟨g, i * 2, none⟩ (.int .i64 e.key)).setCell ⟨g, i * 2 + 1, none⟩ (.slice e.A e.l e.c)) g n (upd f i e) := by
  obtain ⟨cs, h1, h2, h3⟩ := h
  refine ⟨_, blk_put (blk_put h1 (i * 2) _ rfl) (i * 2 + 1) _ rfl, by simpa using h2, fun j hj => ?_⟩
  by_cases hij : i = j
  · subst hij
    rw [upd_same]
    refine ⟨?_, ?_⟩
    · simp [Array.getElem?_setIfInBounds, show ¬ i * 2 + 1 = 2 * i from by omega, show i * 2 = 2 * i from by omega, show 2 * i < cs.size from by omega]
    · simp [Array.getElem?_setIfInBounds, show i * 2 + 1 = 2 * i + 1 from by omega, show 2 * i + 1 < cs.size from by omega]
  · obtain ⟨e1, e2⟩ := h3 j hj
    rw [upd_other _ _ (fun e => hij e.symm)]
    refine ⟨?_, ?_⟩
    · simp [Array.getElem?_setIfInBounds, show ¬ i * 2 + 1 = 2 * j from by omega, show ¬ i * 2 = 2 * j from by omega, e1]
    · simp [Array.getElem?_setIfInBounds, show ¬ i * 2 + 1 = 2 * j + 1 from by omega, show ¬ i * 2 = 2 * j + 1 from by omega, e2]
      intro he; omega
set_option maxHeartbeats 8000000 in
set_option maxRecDepth 100000 in
theorem swapRange_x (fv : Value) (a b m cap : Nat) (w : World) (h : Bx w g n f) (hab : a + m ≤ b) (hb : b + m ≤ n) (hn : n ≤ 1000000) :
    Calls Tryd.prog 157 #[.slice (some ⟨g, 0, none⟩) n cap, .int .i64 (a : Int), .int .i64 (b : Int), .int .i64 (m : Int), fv] w fun r w' => r = .returned (.tuple #[]) ∧ (∃ f', Bx w' g n f' ∧ Swp a b m f f') ∧ Ap w.heap.size g w w' := by
  have H := Aside0.mk h
  clear h
  go_enter Tryd.func157, Tryd.ntmps157
  go_wp2_with (fail)
  go_loopg [10] m (fun kq v10 w' => ∃ (i : Nat) (f1 : Nat → El), v10 = .int .i64 (i : Int) ∧ i + kq = m ∧ Aside0 (Bx w' g n f1) ∧ Aside0 (Swp a b i f f1) ∧ Aside0 (Ap w.heap.size g w w'))
  case atStart => exact ⟨0, f, rfl, by omega, H, ⟨Swp.zero a b f⟩, ⟨Ap.refl _ _ _⟩⟩
  case round =>
    clear H
    obtain ⟨i, f1, rfl, hk, S, SW, SA⟩ := hrel
    by_cases hi : i < m
    · obtain ⟨k0, k1⟩ := S.out.at_ (i := a + i) (by omega)
      obtain ⟨k2, k3⟩ := S.out.at_ (i := b + i) (by omega)
      have f0 := S.out.free ((a + i) * 2)
      have f1' := S.out.free ((a + i) * 2 + 1)
      have f2 := S.out.free ((b + i) * 2)
      have f3 := S.out.free ((b + i) * 2 + 1)
      have r1 : (a : Int) + i < n := by omega
      have r2 : (b : Int) + i < n := by omega
      have S1 := Aside0.mk (S.out.put (i := a + i) (by omega) (f1 (b + i)))
      have S2 := Aside0.mk (S.out.put (i := b + i) (by omega) (f1 (a + i)))
      obtain ⟨k4, k5⟩ := S1.out.at_ (i := b + i) (by omega)
      obtain ⟨k6, k7⟩ := S2.out.at_ (i := a + i) (by omega)
      have T1 := Aside0.mk (S1.out.put (i := b + i) (by omega) (f1 (a + i)))
      have T2 := Aside0.mk (S2.out.put (i := a + i) (by omega) (f1 (b + i)))
      have W1 := Aside0.mk (SW.out.step (by omega))
      have W2 := Aside0.mk (by have := SW.out.step (by omega); rw [upd_swap _ _ _ (show a + i ≠ b + i by omega)] at this; exact this)
      go_upto_region 3 with (fail)
      go_region
      all_goals
        (try go_wp2)
        go_roundg (m - (i + 1))
        case measure => omega
        case rel => first
          | exact ⟨i + 1, _, by go_num, by omega, ⟨T1.out.up climb⟩, W1, ⟨SA.out.seq (Ap.climb (ap_set2 (ap_set2 (Ap.refl _ _ _))) climb)⟩⟩
          | exact ⟨i + 1, _, by go_num, by omega, ⟨T2.out.up climb⟩, W2, ⟨SA.out.seq (Ap.climb (ap_set2 (ap_set2 (Ap.refl _ _ _))) climb)⟩⟩
    · obtain rfl : i = m := by omega
      go_wp2
      go_end0
      exact ⟨rfl, ⟨f1, S.out.up climb, SW.out⟩, SA.out.climb climb⟩
theorem swapRange_xi (fv : Value) {a b m : Nat} {x y z : Int} (cap : Nat) (w : World) (h : Bx w g n f) (ex : x = a) (ey : y = b) (ez : z = m) (hab : a + m ≤ b) (hb : b + m ≤ n) (hn : n ≤ 1000000) :
    Calls Tryd.prog 157 #[.slice (some ⟨g, 0, none⟩) n cap, .int .i64 x, .int .i64 y, .int .i64 z, fv] w fun r w' => r = .returned (.tuple #[]) ∧ (∃ f', Bx w' g n f' ∧ Swp a b m f f') ∧ Ap w.heap.size g w w' := by
  subst ex ey ez
  exact swapRange_x fv a b m cap w h hab hb hn
theorem out_swp {a b m A B : Nat} {f0 f1 f2 : Nat → El} (h : ∀ k, k < A ∨ B ≤ k → f1 k = f0 k) (k : Swp a b m f1 f2) (h1 : A ≤ a) (h2 : a + m ≤ b) (h3 : b + m ≤ B) : ∀ k, k < A ∨ B ≤ k → f2 k = f0 k := fun r hr => by
  rw [k.out r (by omega) (by omega), h r hr]
set_option maxHeartbeats 8000000 in
set_option maxRecDepth 100000 in
theorem rotate_x (fv : Value) (a m b : Nat) (cap : Nat) (w : World) (h : Bx w g n f) (ham : a < m) (hmb : m < b) (hb : b ≤ n) (hn : n ≤ 1000000) :
    Calls Tryd.prog 148 #[.slice (some ⟨g, 0, none⟩) n cap, .int .i64 (a : Int), .int .i64 (m : Int), .int .i64 (b : Int), fv] w fun r w' => r = .returned (.tuple #[]) ∧ (∃ f', Bx w' g n f' ∧ Rot a m b f f') ∧ Ap w.heap.size g w w' := by
  have H := Aside0.mk h
  clear h
  obtain ⟨T, hT⟩ : ∃ T : Nat → El, T = fun k => if k + m < a + b then f (k + m - a) else f (k + m - b) := ⟨_, rfl⟩
  have R0 := Aside0.mk (show Rin a b a (m - a) (b - m) T f by rw [hT]; exact Rin.start (by omega) (by omega) f)
  have HT := Aside0.mk hT
  clear hT
  go_enter Tryd.func148, Tryd.ntmps148
  go_wp2_with (fail)
  go_loopg [10, 11] (b - a) (fun kq v10 v11 w' => ∃ (s i j : Nat) (f1 : Nat → El), v10 = .int .i64 (i : Int) ∧ v11 = .int .i64 (j : Int) ∧ 1 ≤ i ∧ 1 ≤ j ∧ s + i = m ∧ a ≤ s ∧ m + j ≤ b ∧ i + j ≤ kq ∧ Aside0 (Bx w' g n f1) ∧ Aside0 (Rin a b s i j T f1) ∧ Aside0 (∀ k, k < a ∨ b ≤ k → f1 k = f k) ∧ Aside0 (Ap w.heap.size g w w'))
  case atStart => exact ⟨a, m - a, b - m, f, by congr 1; omega, by congr 1; omega, by omega, by omega, by omega, by omega, by omega, by omega, H, R0, ⟨fun _ _ => rfl⟩, ⟨Ap.refl _ _ _⟩⟩
  case round =>
    clear H R0
    obtain ⟨s, i, j, f1, rfl, rfl, hi1, hj1, hs, has, hj2, hk, S, R, O, SA⟩ := hrel
    by_cases he : i = j
    · have q : ((i : Int) != (j : Int)) = false := by simp [he]
      have HE := Aside0.mk he
      clear he
      go_wp2_with (first | (go_at_call 157; (with_reducible refine (swapRange_xi fv (a := s) (b := m) (m := i) cap _ (S.out.up climb) (by omega) (by omega) (by omega) (by omega) (by have := HE.out; omega) hn).mono ?_); rintro _ w1 ⟨rfl, ⟨f2, S', K⟩, A'⟩; have S1 := Aside0.mk S'; have K1 := Aside0.mk K; have SA1 := Aside0.mk ((SA.out.climb climb).seq A'); clear S' A' K))
      go_end0
      have hh := HE.out
      subst hh
      refine ⟨rfl, ⟨f2, S1.out.up climb, Rot.of (fun k h1 h2 => ?_) (out_swp O.out K1.out has (by omega) (by omega)) (by omega) (by omega)⟩, SA1.out.climb climb⟩
      have K2 := K1.out
      rw [← hs] at K2
      rw [R.out.last K2 k h1 h2, HT.out]
    · have q : ((i : Int) != (j : Int)) = true := by simp; omega
      have HE := Aside0.mk he
      clear he
      by_cases hij : j < i
      · go_wp2_with (first | (go_at_call 157; (with_reducible refine (swapRange_xi fv (a := s) (b := m) (m := j) cap _ (S.out.up climb) (by omega) (by omega) (by omega) (by omega) (by omega) hn).mono ?_); rintro _ w1 ⟨rfl, ⟨f2, S', K⟩, A'⟩; have S1 := Aside0.mk S'; have K1 := Aside0.mk K; have SA1 := Aside0.mk ((SA.out.climb climb).seq A'); clear S' A' K))
        go_roundg i
        case measure => omega
        case rel => exact ⟨s + j, i - j, j, f2, by congr 1; omega, rfl, by omega, by omega, by omega, by omega, by omega, by omega, S1, ⟨R.out.more (by rw [hs]; exact K1.out) hij⟩, ⟨out_swp O.out K1.out has (by omega) (by omega)⟩, SA1⟩
      · have hij2 : i < j := by have := HE.out; omega
        go_wp2_with (first | (go_at_call 157; (with_reducible refine (swapRange_xi fv (a := s) (b := s + j) (m := i) cap _ (S.out.up climb) (by omega) (by omega) (by omega) (by omega) (by omega) hn).mono ?_); rintro _ w1 ⟨rfl, ⟨f2, S', K⟩, A'⟩; have S1 := Aside0.mk S'; have K1 := Aside0.mk K; have SA1 := Aside0.mk ((SA.out.climb climb).seq A'); clear S' A' K))
        go_roundg j
        case measure => omega
        case rel => exact ⟨s, i, j - i, f2, rfl, by congr 1; omega, by omega, by omega, by omega, by omega, by omega, by omega, S1, ⟨R.out.less K1.out hij2⟩, ⟨out_swp O.out K1.out has (by omega) (by omega)⟩, SA1⟩
end Go.Proofs.YtefhcgnamfnkbaaDoor.Pr
