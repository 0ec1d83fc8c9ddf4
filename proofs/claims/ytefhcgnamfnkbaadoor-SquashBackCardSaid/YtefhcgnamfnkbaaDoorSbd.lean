/- slices.symMergeCmpFunc at squash.bundle, exactly: one element on a side. -/
import Derived.Test.YtefhcgnamfnkbaaDoorSbc
namespace Go.Proofs.YtefhcgnamfnkbaaDoor.Pr
open Go.RowKit Go.Proofs.YtefhcgnamfnkbaaDoorW.PrintWords Go.Proofs.YtefhcgnamfnkbaaDoorW.PrintLast Go.Proofs.YtefhcgnamfnkbaaDoorW.PrintMore
open Go.Proofs.YtefhcgnamfnkbaaDoor.Sb
set_option linter.unusedVariables false
set_option linter.unusedSimpArgs false
variable {w w' : World} {g n : Nat} {f f' f1 : Nat → El} {a b i k m : Nat}
theorem Rot.none1 (f : Nat → El) (a : Nat) : Rot a (a + 1) (a + 1) f f := ⟨fun r h1 h2 => by omega, fun r h1 h2 => by congr 1; omega, fun _ _ => rfl⟩
theorem Rot.step1 (h : Rot a (a + 1) (k + 1) f f1) (hk : a ≤ k) : Rot a (a + 1) (k + 1 + 1) f (upd (upd f1 k (f1 (k + 1))) (k + 1) (f1 k)) := by
  refine ⟨fun r h1 h2 => ?_, fun r h1 h2 => ?_, fun r h1 => ?_⟩
  · rw [upd_other _ _ (by omega)]
    by_cases hr : r = k
    · subst hr
      rw [upd_same, h.out (r + 1) (by omega)]; congr 1; omega
    · rw [upd_other _ _ hr, h.lo r h1 (by omega)]
  · obtain rfl : r = k + 1 := by omega
    rw [upd_same, h.hi k (by omega) (by omega)]; congr 1; omega
  · rw [upd_other _ _ (by omega), upd_other _ _ (by omega), h.out r (by omega)]
theorem Rot.none2 (f : Nat → El) (m : Nat) : Rot m m (m + 1) f f := ⟨fun r h1 h2 => by congr 1; omega, fun r h1 h2 => by omega, fun _ _ => rfl⟩
theorem Rot.step2 (h : Rot k m (m + 1) f f1) (hk : 0 < k) (hkm : k ≤ m) : Rot (k - 1) m (m + 1) f (upd (upd f1 k (f1 (k - 1))) (k - 1) (f1 k)) := by
  refine ⟨fun r h1 h2 => ?_, fun r h1 h2 => ?_, fun r h1 => ?_⟩
  · obtain rfl : r = k - 1 := by omega
    rw [upd_same, h.lo k (by omega) (by omega)]; congr 1; omega
  · rw [upd_other _ _ (by omega)]
    by_cases hr : r = k
    · subst hr
      rw [upd_same, h.out (r - 1) (by omega)]; congr 1; omega
    · rw [upd_other _ _ hr, h.hi r (by omega) h2]
  · rw [upd_other _ _ (by omega), upd_other _ _ (by omega), h.out r (by omega)]
theorem sym1 (h : Rot a (a + 1) i f f1) (h1 : a + 1 ≤ i) (h2 : i ≤ b) (hs : Srt El.rk f (a + 1) b) (hlo : i = a + 1 ∨ (f (i - 1)).rk < (f a).rk) (hhi : i = b ∨ (f a).rk < (f i).rk) : Srt El.rk f1 a b := fun p q h3 h4 h5 => by
  have lo : ∀ r, a ≤ r → r + 1 < i → f1 r = f (r + 1) := fun r e1 e2 => (h.lo r e1 (by omega)).trans (by congr 1; omega)
  have mid : f1 (i - 1) = f a := (h.hi (i - 1) (by omega) (by omega)).trans (by congr 1; omega)
  have up : ∀ r, i ≤ r → f1 r = f r := fun r e => h.out r (by omega)
  by_cases hp : p + 1 < i
  · rw [lo p h3 hp]
    have hpi : (f (p + 1)).rk < (f a).rk := by
      rcases hlo with e | e
      · omega
      · rcases Nat.eq_or_lt_of_le (show p + 1 ≤ i - 1 by omega) with e2 | e2
        · rw [e2]; exact e
        · have := hs (p + 1) (i - 1) (by omega) e2 (by omega)
          omega
    by_cases hq : q + 1 < i
    · rw [lo q (by omega) hq]; exact hs (p + 1) (q + 1) (by omega) (by omega) (by omega)
    · by_cases hq2 : q + 1 = i
      · obtain rfl : q = i - 1 := by omega
        rw [mid]; exact hpi
      · rw [up q (by omega)]; exact hs (p + 1) q (by omega) (by omega) h5
  · by_cases hp2 : p + 1 = i
    · obtain rfl : p = i - 1 := by omega
      rw [mid, up q (by omega)]
      rcases hhi with e | e
      · omega
      · rcases Nat.eq_or_lt_of_le (show i ≤ q by omega) with e2 | e2
        · rw [← e2]; exact e
        · have := hs i q (by omega) e2 h5
          omega
    · rw [up p (by omega), up q (by omega)]; exact hs p q (by omega) h4 h5
theorem sym2 (h : Rot i m (m + 1) f f1) (h1 : a ≤ i) (h2 : i ≤ m) (hs : Srt El.rk f a m) (hlo : i = a ∨ (f (i - 1)).rk < (f m).rk) (hhi : i = m ∨ (f m).rk < (f i).rk) : Srt El.rk f1 a (m + 1) := fun p q h3 h4 h5 => by
  have lo : ∀ r, r < i → f1 r = f r := fun r e => h.out r (by omega)
  have mid : f1 i = f m := (h.lo i (by omega) (by omega)).trans (by congr 1; omega)
  have up : ∀ r, i < r → r ≤ m → f1 r = f (r - 1) := fun r e1 e2 => (h.hi r (by omega) (by omega)).trans (by congr 1; omega)
  by_cases hp : p < i
  · rw [lo p hp]
    have hpi : (f p).rk < (f m).rk := by
      rcases hlo with e | e
      · omega
      · rcases Nat.eq_or_lt_of_le (show p ≤ i - 1 by omega) with e2 | e2
        · rw [e2]; exact e
        · have := hs p (i - 1) h3 e2 (by omega)
          omega
    by_cases hq : q < i
    · rw [lo q hq]; exact hs p q h3 h4 (by omega)
    · by_cases hq2 : q = i
      · subst hq2; rw [mid]; exact hpi
      · rw [up q (by omega) (by omega)]; exact hs p (q - 1) h3 (by omega) (by omega)
  · by_cases hp2 : p = i
    · subst hp2
      rw [mid, up q h4 (by omega)]
      rcases hhi with e | e
      · omega
      · rcases Nat.eq_or_lt_of_le (show p ≤ q - 1 by omega) with e2 | e2
        · rw [← e2]; exact e
        · have := hs p (q - 1) h3 e2 (by omega)
          omega
    · rw [up p (by omega) (by omega), up q (by omega) (by omega)]; exact hs (p - 1) (q - 1) (by omega) (by omega) (by omega)
set_option maxHeartbeats 16000000 in
set_option maxRecDepth 100000 in
theorem sym_one_x (cap : Nat) (hn : n ≤ 1000000) (a m b : Nat) (f : Nat → El) (w : World) (h : Bx w g n f) (hok : ∀ i, i < n → (f i).ok) (hs1 : Srt El.rk f m b) (hx : ∀ p q, a ≤ p → p < m → m ≤ q → q < b → (f p).idx < (f q).idx) (ham : a < m) (hmb : m < b) (hb : b ≤ n) (c1 : (m : Int) - a = 1) :
    Calls Tryd.prog 132 #[.slice (some ⟨g, 0, none⟩) n cap, .int .i64 (a : Int), .int .i64 (m : Int), .int .i64 (b : Int), .func (.func 75) #[] #[]] w fun r w' => r = .returned (.tuple #[]) ∧ (∃ f', Bx w' g n f' ∧ Pm a b f f' ∧ Srt El.rk f' a b) ∧ Ap w.heap.size g w w' := by
  have H := Aside0.mk h
  have OK := Aside0.mk hok
  have HX := Aside0.mk hx
  have HS := Aside0.mk hs1
  clear h hok hx hs1
  go_enter Tryd.func132, Tryd.ntmps132
  go_wp2_with (fail)
  go_loopg [10, 11] (b - m) (fun kq v10 v11 w' => ∃ (i j : Nat), v10 = .int .i64 (i : Int) ∧ v11 = .int .i64 (j : Int) ∧ m ≤ i ∧ i ≤ j ∧ j ≤ b ∧ j ≤ i + kq ∧ Aside0 (Bx w' g n f) ∧ Aside0 ((i = m ∨ (f (i - 1)).rk < (f a).rk) ∧ (j = b ∨ (f a).rk < (f j).rk)) ∧ Aside0 (Ap w.heap.size g w w'))
  case atStart => exact ⟨m, b, rfl, rfl, by omega, by omega, by omega, by omega, H, ⟨.inl rfl, .inl rfl⟩, ⟨Ap.refl _ _ _⟩⟩
  case round =>
    clear H
    obtain ⟨i, j, rfl, rfl, hi, hij, hj, hk, S, BS, SA⟩ := hrel
    by_cases hlt : i < j
    · go_upto_region 5 with (fail)
      obtain ⟨hh, eh⟩ : ∃ hh : Nat, ((i : Int) + j) / 2 = (hh : Int) := ⟨(i + j) / 2, by omega⟩
      rw [eh]
      have hh1 : i ≤ hh := by omega
      have hh2 : hh < j := by omega
      clear eh
      have r1 : (hh : Int) < n := by omega
      have r2 : (a : Int) < n := by omega
      obtain ⟨k0, k1⟩ := S.out.at_ (i := hh) (by omega)
      obtain ⟨k2, k3⟩ := S.out.at_ (i := a) (by omega)
      have o1 := Aside0.mk (OK.out hh (by omega))
      have o2 := Aside0.mk (OK.out a (by omega))
      have j1 := Aside0.mk (HX.out a hh (by omega) (by omega) (by omega) (by omega))
      obtain ⟨x1, hx1⟩ : ∃ x, x = f hh := ⟨_, rfl⟩
      obtain ⟨x2, hx2⟩ : ∃ x, x = f a := ⟨_, rfl⟩
      rw [← hx1] at k0 k1 o1 j1
      rw [← hx2] at k2 k3 o2 j1
      have HX1 := Aside0.mk hx1
      have HX2 := Aside0.mk hx2
      clear hx1 hx2
      have L0 := Aside0.mk (two_cells k0 k1 k2 k3)
      go_region_held3 (fun w' => w'.cell? ⟨g, hh * 2, none⟩ = some (.int .i64 x1.key) ∧ w'.cell? ⟨g, hh * 2 + 1, none⟩ = some (.slice x1.A x1.l x1.c) ∧ w'.cell? ⟨g, a * 2, none⟩ = some (.int .i64 x2.key) ∧ w'.cell? ⟨g, a * 2 + 1, none⟩ = some (.slice x2.A x2.l x2.c)) (first | exact L0.out _ HB.out | exact L0.out _ (bl HB.out) | exact L0.out _ climb) (first | (go_at_call 75; (with_reducible refine (cmp_calls x1.key x2.key x1.A x2.A x1.l x1.c x2.l x2.c _).mono ?_); rintro _ w1 ⟨rfl, hb1⟩; have HB := Aside0.mk (show Below wr.heap.size wr w1 from below_step climb hb1); clear hb1))
      have S_ := Aside0.mk (S.out.up HB.out)
      have SA_ := Aside0.mk (SA.out.climb HB.out)
      clear S SA k0 k1 k2 k3 L0 HB
      have S := S_
      have SA := SA_
      clear S_ SA_
      by_cases hz : wrap64 (x1.key - x2.key) < 0
      · have hlt := Aside0.mk (cmp_lt o1.out o2.out hz)
        go_wp2
        go_roundg (j - (hh + 1))
        case measure => omega
        case rel => exact ⟨hh + 1, j, by go_num, rfl, by omega, by omega, by omega, by omega, ⟨S.out.up climb⟩, ⟨.inr (by rw [Nat.add_sub_cancel, ← HX1.out, ← HX2.out]; exact hlt.out), BS.out.2⟩, ⟨SA.out.climb climb⟩⟩
      · have hge := Aside0.mk (cmp_ge o1.out o2.out j1.out hz)
        go_wp2
        go_roundg (hh - i)
        case measure => omega
        case rel => exact ⟨i, hh, rfl, rfl, by omega, by omega, by omega, by omega, ⟨S.out.up climb⟩, ⟨BS.out.1, .inr (by rw [← HX1.out, ← HX2.out]; exact hge.out)⟩, ⟨SA.out.climb climb⟩⟩
    · obtain rfl : i = j := by omega
      have hma : m = a + 1 := by omega
      go_wp2_with (fail)
      go_loopg [13] (i - a) (fun kq v13 w' => ∃ (k : Nat) (f1 : Nat → El), v13 = .int .i64 (k : Int) ∧ a ≤ k ∧ k + 1 ≤ i ∧ i ≤ k + kq ∧ Aside0 (Bx w' g n f1) ∧ Aside0 (Rot a (a + 1) (k + 1) f f1) ∧ Aside0 (Ap w.heap.size g w w'))
      case atStart => exact ⟨a, f, rfl, by omega, by omega, by omega, ⟨S.out.up climb⟩, ⟨Rot.none1 f a⟩, ⟨SA.out.climb climb⟩⟩
      case round =>
        clear S SA
        obtain ⟨k, f1, rfl, hak, hki, hik, S, R, SA⟩ := hrel
        by_cases hk2 : (k : Int) < (i : Int) - 1
        · have r1 : (k : Int) + 1 < n := by omega
          have r2 : (k : Int) < n := by omega
          obtain ⟨k0, k1⟩ := S.out.at_ (i := k) (by omega)
          obtain ⟨k2, k3⟩ := S.out.at_ (i := k + 1) (by omega)
          have f0 := S.out.free (k * 2)
          have f1' := S.out.free (k * 2 + 1)
          have f2 := S.out.free ((k + 1) * 2)
          have f3 := S.out.free ((k + 1) * 2 + 1)
          have S1 := Aside0.mk (S.out.put (i := k) (by omega) (f1 (k + 1)))
          have S2 := Aside0.mk (S.out.put (i := k + 1) (by omega) (f1 k))
          obtain ⟨k4, k5⟩ := S1.out.at_ (i := k + 1) (by omega)
          obtain ⟨k6, k7⟩ := S2.out.at_ (i := k) (by omega)
          have T1 := Aside0.mk (S1.out.put (i := k + 1) (by omega) (f1 k))
          have T2 := Aside0.mk (S2.out.put (i := k) (by omega) (f1 (k + 1)))
          have R1 := Aside0.mk (Rot.step1 R.out hak)
          have R2 := Aside0.mk (by have := Rot.step1 R.out hak; rw [upd_swap _ _ _ (show k ≠ k + 1 by omega)] at this; exact this)
          go_upto_region 11 with (fail)
          go_region
          all_goals
            (try go_wp2)
            go_roundg (i - (k + 1))
            case measure => omega
            case rel => first
              | exact ⟨k + 1, _, by go_num, by omega, by omega, by omega, ⟨T1.out.up climb⟩, R1, ⟨SA.out.seq (Ap.climb (ap_set2 (ap_set2 (Ap.refl _ _ _))) climb)⟩⟩
              | exact ⟨k + 1, _, by go_num, by omega, by omega, by omega, ⟨T2.out.up climb⟩, R2, ⟨SA.out.seq (Ap.climb (ap_set2 (ap_set2 (Ap.refl _ _ _))) climb)⟩⟩
        · have e1 : k + 1 = i := by omega
          go_wp2
          (try simp only [Exit.inBlock, Exit.then])
          refine bodyPost_ret (results_none rfl _ _ _) rfl ?_
          have R3 := R.out
          rw [e1] at R3
          exact ⟨rfl, ⟨f1, S.out.up climb, (R3.pm (by omega) (by omega)).widen (Nat.le_refl _) (by omega) hj, sym1 R3 (by omega) hj (hma ▸ HS.out) (hma ▸ BS.out.1) BS.out.2⟩, SA.out.climb climb⟩
set_option maxHeartbeats 16000000 in
set_option maxRecDepth 100000 in
theorem sym_two_x (cap : Nat) (hn : n ≤ 1000000) (a m b : Nat) (f : Nat → El) (w : World) (h : Bx w g n f) (hok : ∀ i, i < n → (f i).ok) (hs1 : Srt El.rk f a m) (hx : ∀ p q, a ≤ p → p < m → m ≤ q → q < b → (f p).idx < (f q).idx) (ham : a < m) (hmb : m < b) (hb : b ≤ n) (c1 : ¬ (m : Int) - a = 1) (c2 : (b : Int) - m = 1) :
    Calls Tryd.prog 132 #[.slice (some ⟨g, 0, none⟩) n cap, .int .i64 (a : Int), .int .i64 (m : Int), .int .i64 (b : Int), .func (.func 75) #[] #[]] w fun r w' => r = .returned (.tuple #[]) ∧ (∃ f', Bx w' g n f' ∧ Pm a b f f' ∧ Srt El.rk f' a b) ∧ Ap w.heap.size g w w' := by
  have cq1 : ((m : Int) - a == 1) = false := beq_eq_false_iff_ne.2 c1
  have H := Aside0.mk h
  have OK := Aside0.mk hok
  have HX := Aside0.mk hx
  have HS := Aside0.mk hs1
  clear h hok hx hs1
  go_enter Tryd.func132, Tryd.ntmps132
  go_wp2_with (fail)
  go_loopg [14, 15] (m - a) (fun kq v14 v15 w' => ∃ (i j : Nat), v14 = .int .i64 (i : Int) ∧ v15 = .int .i64 (j : Int) ∧ a ≤ i ∧ i ≤ j ∧ j ≤ m ∧ j ≤ i + kq ∧ Aside0 (Bx w' g n f) ∧ Aside0 ((i = a ∨ (f (i - 1)).rk < (f m).rk) ∧ (j = m ∨ (f m).rk < (f j).rk)) ∧ Aside0 (Ap w.heap.size g w w'))
  case atStart => exact ⟨a, m, rfl, rfl, by omega, by omega, by omega, by omega, H, ⟨.inl rfl, .inl rfl⟩, ⟨Ap.refl _ _ _⟩⟩
  case round =>
    clear H
    obtain ⟨i, j, rfl, rfl, hi, hij, hj, hk, S, BS, SA⟩ := hrel
    by_cases hlt : i < j
    · go_upto_region 17 with (fail)
      obtain ⟨hh, eh⟩ : ∃ hh : Nat, ((i : Int) + j) / 2 = (hh : Int) := ⟨(i + j) / 2, by omega⟩
      rw [eh]
      have hh1 : i ≤ hh := by omega
      have hh2 : hh < j := by omega
      clear eh
      have r1 : (hh : Int) < n := by omega
      have r2 : (m : Int) < n := by omega
      obtain ⟨k0, k1⟩ := S.out.at_ (i := m) (by omega)
      obtain ⟨k2, k3⟩ := S.out.at_ (i := hh) (by omega)
      have o1 := Aside0.mk (OK.out m (by omega))
      have o2 := Aside0.mk (OK.out hh (by omega))
      have j1 := Aside0.mk (HX.out hh m (by omega) (by omega) (by omega) (by omega))
      obtain ⟨x1, hx1⟩ : ∃ x, x = f m := ⟨_, rfl⟩
      obtain ⟨x2, hx2⟩ : ∃ x, x = f hh := ⟨_, rfl⟩
      rw [← hx1] at k0 k1 o1 j1
      rw [← hx2] at k2 k3 o2 j1
      have HX1 := Aside0.mk hx1
      have HX2 := Aside0.mk hx2
      clear hx1 hx2
      have L0 := Aside0.mk (two_cells k0 k1 k2 k3)
      go_region_held3 (fun w' => w'.cell? ⟨g, m * 2, none⟩ = some (.int .i64 x1.key) ∧ w'.cell? ⟨g, m * 2 + 1, none⟩ = some (.slice x1.A x1.l x1.c) ∧ w'.cell? ⟨g, hh * 2, none⟩ = some (.int .i64 x2.key) ∧ w'.cell? ⟨g, hh * 2 + 1, none⟩ = some (.slice x2.A x2.l x2.c)) (first | exact L0.out _ HB.out | exact L0.out _ (bl HB.out) | exact L0.out _ climb) (first | (go_at_call 75; (with_reducible refine (cmp_calls x1.key x2.key x1.A x2.A x1.l x1.c x2.l x2.c _).mono ?_); rintro _ w1 ⟨rfl, hb1⟩; have HB := Aside0.mk (show Below wr.heap.size wr w1 from below_step climb hb1); clear hb1))
      have S_ := Aside0.mk (S.out.up HB.out)
      have SA_ := Aside0.mk (SA.out.climb HB.out)
      clear S SA k0 k1 k2 k3 L0 HB
      have S := S_
      have SA := SA_
      clear S_ SA_
      by_cases hz : wrap64 (x1.key - x2.key) < 0
      · have hz2 : decide (wrap64 (x1.key - x2.key) < 0) = true := decide_eq_true hz
        have hlt := Aside0.mk (cmp_lt o1.out o2.out hz)
        clear hz
        simp only [hz2, Bool.not_true]
        go_wp2
        go_roundg (hh - i)
        case measure => omega
        case rel => exact ⟨i, hh, rfl, rfl, by omega, by omega, by omega, by omega, ⟨S.out.up climb⟩, ⟨BS.out.1, .inr (by rw [← HX1.out, ← HX2.out]; exact hlt.out)⟩, ⟨SA.out.climb climb⟩⟩
      · have hz2 : decide (wrap64 (x1.key - x2.key) < 0) = false := decide_eq_false hz
        have hge := Aside0.mk (cmp_ge o1.out o2.out j1.out hz)
        clear hz
        simp only [hz2, Bool.not_false]
        go_wp2
        go_roundg (j - (hh + 1))
        case measure => omega
        case rel => exact ⟨hh + 1, j, by go_num, rfl, by omega, by omega, by omega, by omega, ⟨S.out.up climb⟩, ⟨.inr (by rw [Nat.add_sub_cancel, ← HX1.out, ← HX2.out]; exact hge.out), BS.out.2⟩, ⟨SA.out.climb climb⟩⟩
    · obtain rfl : i = j := by omega
      have hbm : b = m + 1 := by omega
      go_wp2_with (fail)
      go_loopg [17] m (fun kq v17 w' => ∃ (f1 : Nat → El), v17 = .int .i64 (kq : Int) ∧ i ≤ kq ∧ kq ≤ m ∧ Aside0 (Bx w' g n f1) ∧ Aside0 (Rot kq m (m + 1) f f1) ∧ Aside0 (Ap w.heap.size g w w'))
      case atStart => exact ⟨f, rfl, by omega, by omega, ⟨S.out.up climb⟩, ⟨Rot.none2 f m⟩, ⟨SA.out.climb climb⟩⟩
      case round =>
        clear S SA
        obtain ⟨f1, rfl, hak, hik, S, R, SA⟩ := hrel
        by_cases hk2 : i < gk
        · have r0 : ((gk : Int) - 1).toNat = gk - 1 := by omega
          have r1 : 0 ≤ (gk : Int) - 1 := by omega
          have r2 : (gk : Int) - 1 < n := by omega
          have r3 : (gk : Int) < n := by omega
          obtain ⟨k0, k1⟩ := S.out.at_ (i := gk) (by omega)
          obtain ⟨k2, k3⟩ := S.out.at_ (i := gk - 1) (by omega)
          have f0 := S.out.free (gk * 2)
          have f1' := S.out.free (gk * 2 + 1)
          have f2 := S.out.free ((gk - 1) * 2)
          have f3 := S.out.free ((gk - 1) * 2 + 1)
          have S1 := Aside0.mk (S.out.put (i := gk) (by omega) (f1 (gk - 1)))
          have S2 := Aside0.mk (S.out.put (i := gk - 1) (by omega) (f1 gk))
          obtain ⟨k4, k5⟩ := S1.out.at_ (i := gk - 1) (by omega)
          obtain ⟨k6, k7⟩ := S2.out.at_ (i := gk) (by omega)
          have T1 := Aside0.mk (S1.out.put (i := gk - 1) (by omega) (f1 gk))
          have T2 := Aside0.mk (S2.out.put (i := gk) (by omega) (f1 (gk - 1)))
          have R1 := Aside0.mk (Rot.step2 R.out (by omega) hik)
          have R2 := Aside0.mk (by have := Rot.step2 R.out (by omega) hik; rw [upd_swap _ _ _ (show gk ≠ gk - 1 by omega)] at this; exact this)
          go_upto_region 23 with (fail)
          go_region
          all_goals
            (try go_wp2)
            go_roundg (gk - 1)
            case measure => omega
            case rel => first
              | exact ⟨_, by congr 1; omega, by omega, by omega, ⟨T1.out.up climb⟩, R1, ⟨SA.out.seq (Ap.climb (ap_set2 (ap_set2 (Ap.refl _ _ _))) climb)⟩⟩
              | exact ⟨_, by congr 1; omega, by omega, by omega, ⟨T2.out.up climb⟩, R2, ⟨SA.out.seq (Ap.climb (ap_set2 (ap_set2 (Ap.refl _ _ _))) climb)⟩⟩
        · have e1 : gk = i := by omega
          go_wp2
          (try simp only [Exit.inBlock, Exit.then])
          refine bodyPost_ret (results_none rfl _ _ _) rfl ?_
          have R3 := R.out
          rw [e1] at R3
          exact ⟨rfl, ⟨f1, S.out.up climb, (R3.pm (by omega) (by omega)).widen (by omega) (by omega) (by omega), by rw [hbm]; exact sym2 R3 (by omega) (by omega) HS.out BS.out.1 BS.out.2⟩, SA.out.climb climb⟩
end Go.Proofs.YtefhcgnamfnkbaaDoor.Pr
