/- slices.insertionSortCmpFunc at squash.bundle, exactly. -/
import Derived.Test.YtefhcgnamfnkbaaDoorSbb
namespace Go.Proofs.YtefhcgnamfnkbaaDoor.Pr
open Go.RowKit Go.Proofs.YtefhcgnamfnkbaaDoorW.PrintWords Go.Proofs.YtefhcgnamfnkbaaDoorW.PrintLast Go.Proofs.YtefhcgnamfnkbaaDoorW.PrintMore
open Go.Proofs.YtefhcgnamfnkbaaDoor.Sb
set_option linter.unusedVariables false
set_option linter.unusedSimpArgs false
variable {w w' : World} {g n : Nat} {f f' f1 : Nat → El} {a b i k : Nat}
/-- Numbers and places are small. -/
def El.ok (e : El) : Prop := 0 ≤ e.key ∧ e.key ≤ 1000000000000000 ∧ e.idx < 1048576
theorem pm_all {P : El → Prop} (h : Pm a b f f') (hb : b ≤ n) (k : ∀ i, i < n → P (f i)) : ∀ i, i < n → P (f' i) := fun i hi => by
  by_cases h1 : a ≤ i ∧ i < b
  · obtain ⟨j, h2, h3, e⟩ := h.back h1.1 h1.2
    rw [e]; exact k j (by omega)
  · rw [h.out i (by omega)]; exact k i hi
theorem cmp_lt {x y : El} (hx : x.ok) (hy : y.ok) (h : wrap64 (x.key - y.key) < 0) : x.rk < y.rk := by
  obtain ⟨a1, a2, a3⟩ := hx
  obtain ⟨b1, b2, b3⟩ := hy
  unfold wrap64 at h
  unfold El.rk
  omega
theorem cmp_ge {x y : El} (hx : x.ok) (hy : y.ok) (hi : y.idx < x.idx) (h : ¬ wrap64 (x.key - y.key) < 0) : y.rk < x.rk := by
  obtain ⟨a1, a2, a3⟩ := hx
  obtain ⟨b1, b2, b3⟩ := hy
  unfold wrap64 at h
  unfold El.rk
  omega
/-- Neighbours have changed places. -/
theorem pm_next (f : Nat → El) {k : Nat} (hk : 0 < k) : Pm (k - 1) (k + 1) f (upd (upd f k (f (k - 1))) (k - 1) (f k)) := by
  refine Rot.pm (m := k) ⟨fun r h1 h2 => ?_, fun r h1 h2 => ?_, fun r h => ?_⟩ (by omega) (by omega)
  · obtain rfl : r = k - 1 := by omega
    rw [upd_same]; congr 1; omega
  · obtain rfl : r = k := by omega
    rw [upd_other _ _ (by omega), upd_same]; congr 1; omega
  · rw [upd_other _ _ (by omega), upd_other _ _ (by omega)]
/-- The element from i stands at k, and goes down. -/
structure Ins (f f1 : Nat → El) (a i k : Nat) : Prop where
  pm : Pm a (i + 1) f f1
  ix : (f1 k).idx = (f i).idx
  lt : ∀ p, a ≤ p → p ≤ i → p ≠ k → (f1 p).idx < (f i).idx
  so : ∀ p q, a ≤ p → p < q → q ≤ i → p ≠ k → q ≠ k → (f1 p).rk < (f1 q).rk
  up : ∀ q, k < q → q ≤ i → (f1 k).rk < (f1 q).rk
theorem Ins.start (hp : Pm a i f f1) (hs : Srt El.rk f1 a i) (hai : a ≤ i) (hx : ∀ p, a ≤ p → p < i → (f p).idx < (f i).idx) : Ins f f1 a i i := by
  have e : f1 i = f i := hp.out i (by omega)
  refine ⟨hp.widen (Nat.le_refl _) hai (by omega), by rw [e], fun p h1 h2 h3 => ?_, fun p q h1 h2 h3 h4 h5 => hs p q h1 h2 (by omega), fun q h1 h2 => by omega⟩
  obtain ⟨j, h4, h5, ej⟩ := hp.back h1 (show p < i by omega)
  rw [ej]; exact hx j h4 h5
theorem Ins.step (h : Ins f f1 a i k) (hak : a < k) (hki : k ≤ i) (hlt : (f1 k).rk < (f1 (k - 1)).rk) : Ins f (upd (upd f1 k (f1 (k - 1))) (k - 1) (f1 k)) a i (k - 1) := by
  have v0 : upd (upd f1 k (f1 (k - 1))) (k - 1) (f1 k) (k - 1) = f1 k := upd_same _ _ _
  have v1 : upd (upd f1 k (f1 (k - 1))) (k - 1) (f1 k) k = f1 (k - 1) := by rw [upd_other _ _ (by omega), upd_same]
  have v2 : ∀ p, p ≠ k → p ≠ k - 1 → upd (upd f1 k (f1 (k - 1))) (k - 1) (f1 k) p = f1 p := fun p h1 h2 => by rw [upd_other _ _ h2, upd_other _ _ h1]
  refine ⟨h.pm.trans ((pm_next f1 (by omega)).widen (by omega) (by omega) (by omega)), by rw [v0, h.ix], fun p h1 h2 h3 => ?_, fun p q h1 h2 h3 h4 h5 => ?_, fun q h1 h2 => ?_⟩
  · by_cases hp : p = k
    · rw [hp, v1]; exact h.lt (k - 1) (by omega) (by omega) (by omega)
    · rw [v2 p hp h3]; exact h.lt p h1 h2 hp
  · by_cases hp : p = k
    · subst hp
      rw [v1, v2 q (by omega) h5]; exact h.so (p - 1) q (by omega) (by omega) h3 (by omega) (by omega)
    · rw [v2 p hp h4]
      by_cases hq : q = k
      · subst hq
        rw [v1]; exact h.so p (q - 1) h1 (by omega) (by omega) hp (by omega)
      · rw [v2 q hq h5]; exact h.so p q h1 h2 h3 hp hq
  · rw [v0]
    by_cases hq : q = k
    · rw [hq, v1]; exact hlt
    · rw [v2 q hq (by omega)]; exact h.up q (by omega) h2
theorem Ins.stop (h : Ins f f1 a i k) (hak : a < k) (hge : (f1 (k - 1)).rk < (f1 k).rk) : Srt El.rk f1 a (i + 1) := fun p q h1 h2 h3 => by
  by_cases hq : q = k
  · subst hq
    by_cases hp : p = q - 1
    · rw [hp]; exact hge
    · have := h.so p (q - 1) h1 (by omega) (by omega) (by omega) (by omega)
      omega
  · by_cases hp : p = k
    · subst hp; exact h.up q h2 (by omega)
    · exact h.so p q h1 h2 (by omega) hp hq
theorem Ins.stop0 (h : Ins f f1 a i a) : Srt El.rk f1 a (i + 1) := fun p q h1 h2 h3 => by
  by_cases hp : p = a
  · subst hp; exact h.up q h2 (by omega)
  · exact h.so p q h1 h2 (by omega) hp (by omega)
set_option maxHeartbeats 8000000 in
set_option maxRecDepth 100000 in
theorem insertion_x (a b cap : Nat) (w : World) (h : Bx w g n f) (hok : ∀ i, i < n → (f i).ok) (hx : ∀ p q, a ≤ p → p < q → q < b → (f p).idx < (f q).idx) (hab : a ≤ b) (hb : b ≤ n) (hn : n ≤ 1000000) :
    Calls Tryd.prog 131 #[.slice (some ⟨g, 0, none⟩) n cap, .int .i64 (a : Int), .int .i64 (b : Int), .func (.func 75) #[] #[]] w fun r w' => r = .returned (.tuple #[]) ∧ (∃ f', Bx w' g n f' ∧ Pm a b f f' ∧ Srt El.rk f' a b) ∧ Ap w.heap.size g w w' := by
  have H := Aside0.mk h
  have OK := Aside0.mk hok
  have HX := Aside0.mk hx
  clear h hok hx
  go_enter Tryd.func131, Tryd.ntmps131
  go_wp2_with (fail)
  go_loopg [8] b (fun kq v8 w' => ∃ (i : Nat) (f1 : Nat → El), v8 = .int .i64 (i : Int) ∧ b ≤ i + kq ∧ a < i ∧ i ≤ b + 1 ∧ Aside0 (Bx w' g n f1) ∧ Aside0 (Pm a (min i b) f f1 ∧ Srt El.rk f1 a (min i b)) ∧ Aside0 (Ap w.heap.size g w w'))
  case atStart => exact ⟨a + 1, f, by go_num, by omega, by omega, by omega, H, ⟨Pm.refl _ _ _, fun p q h1 h2 h3 => by omega⟩, ⟨Ap.refl _ _ _⟩⟩
  case round =>
    clear H
    obtain ⟨i, f1, rfl, hk, hai, hib, S, P, SA⟩ := hrel
    by_cases hi : i < b
    · have I0 := Aside0.mk (Ins.start (f := f) (f1 := f1) (a := a) (i := i) (by have := P.out.1; rwa [Nat.min_eq_left (by omega)] at this) (by have := P.out.2; rwa [Nat.min_eq_left (by omega)] at this) (by omega) (fun p h1 h2 => HX.out p i h1 h2 hi))
      clear P
      go_wp2_with (fail)
      go_loopg [9] i (fun kq v9 w' => ∃ (f2 : Nat → El), v9 = .int .i64 (kq : Int) ∧ a ≤ kq ∧ kq ≤ i ∧ Aside0 (Bx w' g n f2) ∧ Aside0 (Ins f f2 a i kq) ∧ Aside0 (Ap w.heap.size g w w'))
      case atStart => exact ⟨f1, rfl, by omega, by omega, S, I0, SA⟩
      case round =>
        clear S SA I0
        obtain ⟨f2, rfl, hak, hki, S, I, SA⟩ := hrel
        have OK2 := Aside0.mk (pm_all I.out.pm (show i + 1 ≤ n by omega) OK.out)
        by_cases hj : a < gk
        · obtain ⟨k0, k1⟩ := S.out.at_ (i := gk) (by omega)
          obtain ⟨k2, k3⟩ := S.out.at_ (i := gk - 1) (by omega)
          have L0 := Aside0.mk (two_cells k0 k1 k2 k3)
          have r0 : ((gk : Int) - 1).toNat = gk - 1 := by omega
          have r1 : 0 ≤ (gk : Int) - 1 := by omega
          have r2 : (gk : Int) - 1 < n := by omega
          have r3 : (gk : Int) < n := by omega
          have hd : decide ((a : Int) < (gk : Int)) = true := decide_eq_true (by omega)
          have o1 := Aside0.mk (OK2.out gk (by omega))
          have o2 := Aside0.mk (OK2.out (gk - 1) (by omega))
          have j1 := Aside0.mk (show (f2 (gk - 1)).idx < (f2 gk).idx by rw [I.out.ix]; exact I.out.lt (gk - 1) (by omega) (by omega) (by omega))
          obtain ⟨x1, hx1⟩ : ∃ x, x = f2 gk := ⟨_, rfl⟩
          obtain ⟨x2, hx2⟩ : ∃ x, x = f2 (gk - 1) := ⟨_, rfl⟩
          rw [← hx1] at k0 k1 L0 o1 j1
          rw [← hx2] at k2 k3 L0 o2 j1
          have HX1 := Aside0.mk hx1
          have HX2 := Aside0.mk hx2
          clear hx1 hx2
          go_upto_region 4 with (fail)
          have r5 : IntKind.i64.wrap ((gk : Int) - 1) = (gk : Int) - 1 := by rw [IntKind.wrap_i64]; omega
          have r6 : (0 : Int) ≤ (gk : Int) := by omega
          have r7 : (1 : Int) ≤ (gk : Int) := by omega
          go_region_held3 (fun w' => w'.cell? ⟨g, gk * 2, none⟩ = some (.int .i64 x1.key) ∧ w'.cell? ⟨g, gk * 2 + 1, none⟩ = some (.slice x1.A x1.l x1.c) ∧ w'.cell? ⟨g, (gk - 1) * 2, none⟩ = some (.int .i64 x2.key) ∧ w'.cell? ⟨g, (gk - 1) * 2 + 1, none⟩ = some (.slice x2.A x2.l x2.c)) (first | exact L0.out _ HB.out | exact L0.out _ (bl HB.out) | exact L0.out _ climb) (first | (go_at_call 75; (with_reducible refine (cmp_calls x1.key x2.key x1.A x2.A x1.l x1.c x2.l x2.c _).mono ?_); rintro _ w1 ⟨rfl, hb1⟩; have HB := Aside0.mk (show Below wr.heap.size wr w1 from below_step climb hb1); clear hb1))
          have H3 := L0.out _ HB.out
          have S_ := Aside0.mk (S.out.up HB.out)
          have SA_ := Aside0.mk (SA.out.climb HB.out)
          clear S SA k0 k1 k2 k3 L0 HB r5 r6 r7
          have S := S_
          have SA := SA_
          clear S_ SA_
          obtain ⟨k0, k1, k2, k3⟩ := H3
          by_cases hz : wrap64 (x1.key - x2.key) < 0
          · have hlt := Aside0.mk (cmp_lt o1.out o2.out hz)
            have f0 := S.out.free (gk * 2)
            have f1' := S.out.free (gk * 2 + 1)
            have f2' := S.out.free ((gk - 1) * 2)
            have f3 := S.out.free ((gk - 1) * 2 + 1)
            have S1 := Aside0.mk (S.out.put (i := gk) (by omega) x2)
            have S2 := Aside0.mk (S.out.put (i := gk - 1) (by omega) x1)
            obtain ⟨k4, k5⟩ := S1.out.at_ (i := gk - 1) (by omega)
            obtain ⟨k6, k7⟩ := S2.out.at_ (i := gk) (by omega)
            have T1 := Aside0.mk (S1.out.put (i := gk - 1) (by omega) x1)
            have T2 := Aside0.mk (S2.out.put (i := gk) (by omega) x2)
            have I1 := Aside0.mk (show Ins f (upd (upd f2 gk x2) (gk - 1) x1) a i (gk - 1) by rw [HX1.out, HX2.out]; exact I.out.step hj hki (by rw [← HX1.out, ← HX2.out]; exact hlt.out))
            have I2 := Aside0.mk (show Ins f (upd (upd f2 (gk - 1) x1) gk x2) a i (gk - 1) by rw [upd_swap _ _ _ (show gk - 1 ≠ gk by omega)]; exact I1.out)
            go_upto_region 6 with (fail)
            go_region
            all_goals
              (try go_wp2)
              go_roundg (gk - 1)
              case measure => omega
              case rel => first
                | exact ⟨_, by congr 1; omega, by omega, by omega, ⟨T1.out.up climb⟩, I1, ⟨SA.out.seq (Ap.climb (ap_set2 (ap_set2 (Ap.refl _ _ _))) climb)⟩⟩
                | exact ⟨_, by congr 1; omega, by omega, by omega, ⟨T2.out.up climb⟩, I2, ⟨SA.out.seq (Ap.climb (ap_set2 (ap_set2 (Ap.refl _ _ _))) climb)⟩⟩
          · have hge := Aside0.mk (cmp_ge o1.out o2.out j1.out hz)
            go_wp2
            go_roundg (b - (i + 1))
            case measure => omega
            case rel => exact ⟨i + 1, f2, by go_num, by omega, by omega, by omega, ⟨S.out.up climb⟩, ⟨by rw [Nat.min_eq_left (by omega)]; exact I.out.pm, by rw [Nat.min_eq_left (by omega)]; exact I.out.stop hj (by rw [← HX1.out, ← HX2.out]; exact hge.out)⟩, ⟨SA.out.climb climb⟩⟩
        · have hd : decide ((a : Int) < (gk : Int)) = false := decide_eq_false (by omega)
          obtain rfl : a = gk := by omega
          go_wp2
          repeat (go_quiet (fail); try go_wp2)
          go_roundg (b - (i + 1))
          case measure => omega
          case rel => exact ⟨i + 1, f2, by go_num, by omega, by omega, by omega, ⟨S.out.up climb⟩, ⟨by rw [Nat.min_eq_left (by omega)]; exact I.out.pm, by rw [Nat.min_eq_left (by omega)]; exact I.out.stop0⟩, ⟨SA.out.climb climb⟩⟩
    · go_wp2
      go_end0
      exact ⟨rfl, ⟨f1, S.out.up climb, by have := P.out.1; rwa [Nat.min_eq_right (by omega)] at this, by have := P.out.2; rwa [Nat.min_eq_right (by omega)] at this⟩, SA.out.climb climb⟩
end Go.Proofs.YtefhcgnamfnkbaaDoor.Pr
