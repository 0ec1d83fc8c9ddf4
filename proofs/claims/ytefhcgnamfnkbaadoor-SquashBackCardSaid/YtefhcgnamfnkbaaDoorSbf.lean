/- slices.SortStableFunc at squash.bundle, exactly: the row is sorted. -/
import Derived.Test.YtefhcgnamfnkbaaDoorSbe
namespace Go.Proofs.YtefhcgnamfnkbaaDoor.Pr
open Go.RowKit Go.Proofs.YtefhcgnamfnkbaaDoorW.PrintWords Go.Proofs.YtefhcgnamfnkbaaDoorW.PrintLast Go.Proofs.YtefhcgnamfnkbaaDoorW.PrintMore
open Go.Proofs.YtefhcgnamfnkbaaDoor.Sb
set_option linter.unusedVariables false
set_option linter.unusedSimpArgs false
variable {w w' : World} {g n : Nat} {f f1 f2 : Nat → El}
theorem sym_x (cap : Nat) (hn : n ≤ 1000000) : ∀ (d : Nat) (a m b : Nat) (f : Nat → El) (w : World), Bx w g n f → (∀ i, i < n → (f i).ok) → Srt El.rk f a m → Srt El.rk f m b → (∀ p q, a ≤ p → p < m → m ≤ q → q < b → (f p).idx < (f q).idx) → a < m → m < b → b ≤ n → b - a ≤ d →
    Calls Tryd.prog 132 #[.slice (some ⟨g, 0, none⟩) n cap, .int .i64 (a : Int), .int .i64 (m : Int), .int .i64 (b : Int), .func (.func 75) #[] #[]] w fun r w' => r = .returned (.tuple #[]) ∧ (∃ f', Bx w' g n f' ∧ Pm a b f f' ∧ Srt El.rk f' a b) ∧ Ap w.heap.size g w w'
  | 0, a, m, b, f, w, h, ho, h1, h2, hx, ham, hmb, hb, hd => by omega
  | d + 1, a, m, b, f, w, h, ho, h1, h2, hx, ham, hmb, hb, hd => by
    by_cases c1 : (m : Int) - a = 1
    · exact sym_one_x cap hn a m b f w h ho h2 hx ham hmb hb c1
    · by_cases c2 : (b : Int) - m = 1
      · exact sym_two_x cap hn a m b f w h ho h1 hx ham hmb hb c1 c2
      · exact sym_gen_x cap hn d (fun a m b f w h1 h2 h3 h4 h5 h6 h7 h8 h9 => sym_x cap hn d a m b f w h1 h2 h3 h4 h5 h6 h7 h8 h9) a m b f w h ho h1 h2 hx ham hmb hb c1 c2 hd
theorem sym_xi (cap : Nat) (hn : n ≤ 1000000) {a m b : Nat} {x y u : Int} (f : Nat → El) (w : World) (h : Bx w g n f) (ho : ∀ i, i < n → (f i).ok) (h1 : Srt El.rk f a m) (h2 : Srt El.rk f m b) (hx : ∀ p q, a ≤ p → p < m → m ≤ q → q < b → (f p).idx < (f q).idx) (ex : x = a) (ey : y = m) (eu : u = b) (ham : a < m) (hmb : m < b) (hb : b ≤ n) :
    Calls Tryd.prog 132 #[.slice (some ⟨g, 0, none⟩) n cap, .int .i64 x, .int .i64 y, .int .i64 u, .func (.func 75) #[] #[]] w fun r w' => r = .returned (.tuple #[]) ∧ (∃ f', Bx w' g n f' ∧ Pm a b f f' ∧ Srt El.rk f' a b) ∧ Ap w.heap.size g w w' := by
  subst ex ey eu
  exact sym_x cap hn (b - a) a m b f w h ho h1 h2 hx ham hmb hb (Nat.le_refl _)
theorem ins_xi (cap : Nat) (hn : n ≤ 1000000) {a b : Nat} {x y : Int} (f : Nat → El) (w : World) (h : Bx w g n f) (ho : ∀ i, i < n → (f i).ok) (hx : ∀ p q, a ≤ p → p < q → q < b → (f p).idx < (f q).idx) (ex : x = a) (ey : y = b) (hab : a ≤ b) (hb : b ≤ n) :
    Calls Tryd.prog 131 #[.slice (some ⟨g, 0, none⟩) n cap, .int .i64 x, .int .i64 y, .func (.func 75) #[] #[]] w fun r w' => r = .returned (.tuple #[]) ∧ (∃ f', Bx w' g n f' ∧ Pm a b f f' ∧ Srt El.rk f' a b) ∧ Ap w.heap.size g w w' := by
  subst ex ey
  exact insertion_x a b cap w h ho hx hab hb hn
/-- A block of z places from x on is sorted and holds what it held at first. -/
def Blk (n : Nat) (f : Nat → El) (z x : Nat) : Prop := Srt El.rk f x (min (x + z) n) ∧ ∀ p, x ≤ p → p < x + z → p < n → x ≤ (f p).idx ∧ (f p).idx < x + z
theorem blk_same {z x : Nat} (h : Blk n f z x) (e : ∀ p, x ≤ p → p < x + z → f1 p = f p) : Blk n f1 z x :=
  ⟨h.1.same fun p h1 h2 => e p h1 (by omega), fun p h1 h2 h3 => by rw [e p h1 h2]; exact h.2 p h1 h2 h3⟩
theorem dvd_gap {d x y : Nat} (h1 : d ∣ x) (h2 : d ∣ y) (h : x < y) : x + d ≤ y := by
  obtain ⟨i, rfl⟩ := h1
  obtain ⟨j, rfl⟩ := h2
  have hij : i < j := Nat.lt_of_mul_lt_mul_left h
  have := Nat.mul_le_mul_left d (show i + 1 ≤ j by omega)
  rw [Nat.mul_add, Nat.mul_one] at this
  exact this
structure One (n : Nat) (f0 f : Nat → El) (a : Nat) : Prop where
  pm : Pm 0 n f0 f
  lo : ∀ x, 20 ∣ x → x < a → Blk n f 20 x
  un : ∀ p, a ≤ p → f p = f0 p
structure Two (n : Nat) (f0 f : Nat → El) (z a : Nat) : Prop where
  pm : Pm 0 n f0 f
  lo : ∀ x, 2 * z ∣ x → x < a → Blk n f (2 * z) x
  hi : ∀ x, z ∣ x → a ≤ x → Blk n f z x
def All (n : Nat) (f0 f : Nat → El) (z : Nat) : Prop := Pm 0 n f0 f ∧ ∀ x, z ∣ x → Blk n f z x
variable {f0 : Nat → El} {a b z : Nat}
theorem blk_beyond {x : Nat} (h : n ≤ x) : Blk n f z x := ⟨fun p q h1 h2 h3 => by omega, fun p h1 h2 h3 => by omega⟩
theorem One.step (h : One n f0 f a) (hi : ∀ p, p < n → (f0 p).idx = p) (da : 20 ∣ a) (hb : b = min (a + 20) n) (hab : a ≤ b) (P : Pm a b f f1) (S : Srt El.rk f1 a b) : One n f0 f1 (a + 20) := by
  refine ⟨h.pm.trans (P.widen (by omega) hab (by omega)), fun x dx hx => ?_, fun p hp => by rw [P.out p (by omega), h.un p (by omega)]⟩
  by_cases e : x = a
  · subst e
    refine ⟨by rw [← hb]; exact S, fun p h1 h2 h3 => ?_⟩
    obtain ⟨q, e1, e2, e3⟩ := P.back h1 (show p < b by omega)
    rw [e3, h.un q e1, hi q (by omega)]
    omega
  · have hxa : x < a := by
      rcases Nat.lt_or_ge x a with e1 | e1
      · exact e1
      · have := dvd_gap da dx (by omega)
        omega
    have := dvd_gap dx da hxa
    exact blk_same (h.lo x dx hxa) fun p h1 h2 => P.out p (by omega)
theorem One.fin (h : One n f0 f a) (hn : n ≤ a) : All n f0 f 20 := ⟨h.pm, fun x dx => by
  rcases Nat.lt_or_ge x a with e | e
  · exact h.lo x dx e
  · exact blk_beyond (by omega)⟩
theorem Two.start (h : All n f0 f z) : Two n f0 f z 0 := ⟨h.1, fun x _ h => by omega, fun x dx _ => h.2 x dx⟩
theorem dvd_two {x : Nat} (h : 2 * z ∣ x) : z ∣ x := Nat.dvd_trans (Nat.dvd_mul_left z 2) h
theorem Two.pre (h : Two n f0 f z a) (da : 2 * z ∣ a) (hm : a + z ≤ n) (hb : b = min (a + 2 * z) n) : Srt El.rk f a (a + z) ∧ Srt El.rk f (a + z) b ∧ ∀ p q, a ≤ p → p < a + z → a + z ≤ q → q < b → (f p).idx < (f q).idx := by
  have h1 := h.hi a (dvd_two da) (Nat.le_refl _)
  have h2 := h.hi (a + z) (Nat.dvd_add (dvd_two da) (Nat.dvd_refl z)) (by omega)
  refine ⟨h1.1.sub (Nat.le_refl _) (by omega), h2.1.sub (Nat.le_refl _) (by omega), fun p q e1 e2 e3 e4 => ?_⟩
  have a1 := h1.2 p e1 e2 (by omega)
  have a2 := h2.2 q e3 (by omega) (by omega)
  omega
theorem Two.step (h : Two n f0 f z a) (da : 2 * z ∣ a) (hz : 0 < z) (hb : b = min (a + 2 * z) n) (hab : a ≤ b) (P : Pm a b f f1) (S : Srt El.rk f1 a b) : Two n f0 f1 z (a + 2 * z) := by
  refine ⟨h.pm.trans (P.widen (by omega) hab (by omega)), fun x dx hx => ?_, fun x dx hx => blk_same (h.hi x dx (by omega)) fun p h1 h2 => P.out p (by omega)⟩
  by_cases e : x = a
  · subst e
    refine ⟨by rw [← hb]; exact S, fun p h1 h2 h3 => ?_⟩
    obtain ⟨q, e1, e2, e3⟩ := P.back h1 (show p < b by omega)
    rw [e3]
    by_cases hq : q < x + z
    · have := (h.hi x (dvd_two da) (Nat.le_refl _)).2 q e1 hq (by omega)
      omega
    · have := (h.hi (x + z) (Nat.dvd_add (dvd_two da) (Nat.dvd_refl z)) (by omega)).2 q (by omega) (by omega) (by omega)
      omega
  · have hxa : x < a := by
      rcases Nat.lt_or_ge x a with e1 | e1
      · exact e1
      · have := dvd_gap da dx (by omega)
        omega
    have := dvd_gap dx da hxa
    exact blk_same (h.lo x dx hxa) fun p h1 h2 => P.out p (by omega)
theorem Two.fin (h : Two n f0 f z a) (da : 2 * z ∣ a) (hn : n ≤ a + z) : All n f0 f (2 * z) := ⟨h.pm, fun x dx => by
  rcases Nat.lt_or_ge x a with e | e
  · exact h.lo x dx e
  · by_cases e2 : x = a
    · subst e2
      have h1 := h.hi x (dvd_two da) (Nat.le_refl _)
      refine ⟨h1.1.sub (Nat.le_refl _) (by omega), fun p h2 h3 h4 => ?_⟩
      have := h1.2 p h2 (by omega) h4
      omega
    · have := dvd_gap da dx (by omega)
      exact blk_beyond (by omega)⟩
theorem All.fin (h : All n f0 f z) (hz : n ≤ z) : Srt El.rk f 0 n := (h.2 0 (Nat.dvd_zero z)).1.sub (Nat.le_refl _) (by omega)
theorem step_dvd {z a : Nat} (h : 2 * z ∣ a) : 2 * z ∣ a + 2 * z := Nat.dvd_add h (Nat.dvd_refl _)
set_option maxHeartbeats 8000000 in
set_option maxRecDepth 100000 in
theorem stable_x (cap : Nat) (f : Nat → El) (w : World) (h : Bx w g n f) (hok : ∀ i, i < n → (f i).ok) (hix : ∀ p, p < n → (f p).idx = p) (hn : n ≤ 1000000) :
    Calls Tryd.prog 111 #[.slice (some ⟨g, 0, none⟩) n cap, .int .i64 (n : Int), .func (.func 75) #[] #[]] w fun r w' => r = .returned (.tuple #[]) ∧ (∃ f', Bx w' g n f' ∧ Pm 0 n f f' ∧ Srt El.rk f' 0 n) ∧ Ap w.heap.size g w w' := by
  have H := Aside0.mk h
  have OK := Aside0.mk hok
  have IX := Aside0.mk hix
  clear h hok hix
  go_enter Tryd.func111, Tryd.ntmps111
  go_wp2_with (fail)
  go_loopg [7, 8] (n + 1) (fun kq v7 v8 w' => ∃ (a b : Nat) (f1 : Nat → El), v7 = .int .i64 (a : Int) ∧ v8 = .int .i64 (b : Int) ∧ a + 20 = b ∧ a ≤ n ∧ n + 1 ≤ a + kq ∧ Aside0 (20 ∣ a) ∧ Aside0 (One n f f1 a) ∧ Aside0 (Bx w' g n f1) ∧ Aside0 (Ap w.heap.size g w w'))
  case atStart => exact ⟨0, 20, f, rfl, rfl, by omega, by omega, by omega, ⟨Nat.dvd_zero _⟩, ⟨Pm.refl _ _ _, fun x _ h => by omega, fun _ _ => rfl⟩, H, ⟨Ap.refl _ _ _⟩⟩
  case round =>
    clear H
    obtain ⟨a, b, f1, rfl, rfl, hab, han, hk, DA, O, S, SA⟩ := hrel
    have hxs := Aside0.mk (show ∀ p q, a ≤ p → p < q → q < n → (f1 p).idx < (f1 q).idx from fun p q h1 h2 h3 => by rw [O.out.un p h1, O.out.un q (by omega), IX.out p (by omega), IX.out q h3]; exact h2)
    have OK1 := Aside0.mk (pm_all O.out.pm (Nat.le_refl n) OK.out)
    by_cases hb : b ≤ n
    · go_wp2_with (first | (go_at_call 131; (with_reducible refine (ins_xi cap hn (a := a) (b := b) f1 _ (S.out.up climb) OK1.out (fun p q h1 h2 h3 => hxs.out p q h1 h2 (by omega)) rfl rfl (by omega) hb).mono ?_); rintro _ w1 ⟨rfl, ⟨f2, S', P', Q'⟩, A'⟩; have S1 := Aside0.mk S'; have P1 := Aside0.mk P'; have Q1 := Aside0.mk Q'; have SA1 := Aside0.mk ((SA.out.climb climb).seq A'); clear S' A' P' Q'))
      go_roundg (n + 1 - b)
      case measure => omega
      case rel => exact ⟨b, b + 20, f2, rfl, by go_num, by omega, by omega, by omega, ⟨by rw [← hab]; exact Nat.dvd_add DA.out (Nat.dvd_refl _)⟩, ⟨by rw [← hab]; exact O.out.step IX.out DA.out (by omega) (by omega) P1.out Q1.out⟩, S1, SA1⟩
    · go_wp2_with (first | (go_at_call 131; (with_reducible refine (ins_xi cap hn (a := a) (b := n) f1 _ (S.out.up climb) OK1.out hxs.out rfl rfl (by omega) (Nat.le_refl n)).mono ?_); rintro _ w1 ⟨rfl, ⟨f2, S', P', Q'⟩, A'⟩; have S1 := Aside0.mk S'; have P1 := Aside0.mk P'; have Q1 := Aside0.mk Q'; have SA1 := Aside0.mk ((SA.out.climb climb).seq A'); clear S' A' P' Q' S SA))
      have A0 := Aside0.mk ((O.out.step IX.out DA.out (by omega) (by omega) P1.out Q1.out).fin (by omega))
      clear O P1 Q1 OK1 hxs DA
      go_loopg [6] n (fun kq v6 w' => ∃ (z : Nat) (f2 : Nat → El), v6 = .int .i64 (z : Int) ∧ 20 ≤ z ∧ z ≤ 4000000 ∧ n ≤ z + kq ∧ Aside0 (All n f f2 z) ∧ Aside0 (Bx w' g n f2) ∧ Aside0 (Ap w.heap.size g w w'))
      case atStart => exact ⟨20, f2, rfl, by omega, by omega, by omega, A0, S1, SA1⟩
      case round =>
        clear S1 SA1 A0
        obtain ⟨z, f3, rfl, hz0, hz1, hkz, AL, S, SA⟩ := hrel
        by_cases hzn : z < n
        · go_wp2_with (fail)
          go_loopg [7, 8] (n + 1) (fun kq v7 v8 w' => ∃ (a b : Nat) (f4 : Nat → El), v7 = .int .i64 (a : Int) ∧ v8 = .int .i64 (b : Int) ∧ a + 2 * z = b ∧ a ≤ n ∧ n + 1 ≤ a + kq ∧ Aside0 (2 * z ∣ a) ∧ Aside0 (Two n f f4 z a) ∧ Aside0 (Bx w' g n f4) ∧ Aside0 (Ap w.heap.size g w w'))
          case atStart => exact ⟨0, 2 * z, f3, rfl, by go_num, by omega, by omega, by omega, ⟨Nat.dvd_zero _⟩, ⟨Two.start AL.out⟩, S, SA⟩
          case round =>
            clear S SA AL
            obtain ⟨a, b, f4, rfl, rfl, hab, han, hk2, DA, TW, S, SA⟩ := hrel
            have OK4 := Aside0.mk (pm_all TW.out.pm (Nat.le_refl n) OK.out)
            by_cases hb : b ≤ n
            · have PR := Aside0.mk (TW.out.pre (b := b) DA.out (by omega) (by omega))
              go_wp2_with (first | (go_at_call 132; (with_reducible refine (sym_xi cap hn (a := a) (m := a + z) (b := b) f4 _ (S.out.up climb) OK4.out PR.out.1 PR.out.2.1 PR.out.2.2 rfl (by omega) rfl (by omega) (by omega) hb).mono ?_); rintro _ w1 ⟨rfl, ⟨f5, S', P', Q'⟩, A'⟩; have S1 := Aside0.mk S'; have P1 := Aside0.mk P'; have Q1 := Aside0.mk Q'; have SA1 := Aside0.mk ((SA.out.climb climb).seq A'); clear S' A' P' Q'))
              go_roundg (n + 1 - b)
              case measure => omega
              case rel => exact ⟨b, b + 2 * z, f5, rfl, by go_num, by omega, by omega, by omega, ⟨by rw [← hab]; exact step_dvd DA.out⟩, ⟨by rw [← hab]; exact TW.out.step DA.out (by omega) (by omega) (by omega) P1.out Q1.out⟩, S1, SA1⟩
            · by_cases hm : a + z < n
              · have PR := Aside0.mk (TW.out.pre (b := n) DA.out (by omega) (by omega))
                have hm' : (a : Int) + z < n := by omega
                go_wp2_with (first | (go_at_call 132; (with_reducible refine (sym_xi cap hn (a := a) (m := a + z) (b := n) f4 _ (S.out.up climb) OK4.out PR.out.1 PR.out.2.1 PR.out.2.2 rfl (by omega) rfl (by omega) (by omega) (Nat.le_refl n)).mono ?_); rintro _ w1 ⟨rfl, ⟨f5, S', P', Q'⟩, A'⟩; have S1 := Aside0.mk S'; have P1 := Aside0.mk P'; have Q1 := Aside0.mk Q'; have SA1 := Aside0.mk ((SA.out.climb climb).seq A'); clear S' A' P' Q'))
                go_roundg (n - 2 * z)
                case measure => omega
                case rel => exact ⟨2 * z, f5, by go_num, by omega, by omega, by omega, ⟨(TW.out.step DA.out (by omega) (by omega) (by omega) P1.out Q1.out).fin (step_dvd DA.out) (by omega)⟩, ⟨S1.out.up climb⟩, ⟨SA1.out.climb climb⟩⟩
              · have hm' : ¬ (a : Int) + z < n := by omega
                go_wp2_with (fail)
                go_roundg (n - 2 * z)
                case measure => omega
                case rel => exact ⟨2 * z, f4, by go_num, by omega, by omega, by omega, ⟨TW.out.fin DA.out (by omega)⟩, ⟨S.out.up climb⟩, ⟨SA.out.climb climb⟩⟩
        · go_wp2
          go_end0
          exact ⟨rfl, ⟨f3, S.out.up climb, AL.out.1, All.fin AL.out (by omega)⟩, SA.out.climb climb⟩
theorem sortStable_x (cap : Nat) (f : Nat → El) (w : World) (h : Bx w g n f) (hok : ∀ i, i < n → (f i).ok) (hix : ∀ p, p < n → (f p).idx = p) (hn : n ≤ 1000000) :
    Calls Tryd.prog 74 #[.slice (some ⟨g, 0, none⟩) n cap, .func (.func 75) #[] #[]] w fun r w' => r = .returned (.tuple #[]) ∧ (∃ f', Bx w' g n f' ∧ Pm 0 n f f' ∧ Srt El.rk f' 0 n) ∧ Ap w.heap.size g w w' := by
  have H := Aside0.mk h
  clear h
  go_enter Tryd.func74, Tryd.ntmps74
  go_wp2_with (first | (go_at_call 111; (with_reducible refine (stable_x cap f _ H.out hok hix hn).mono ?_); rintro _ w1 ⟨rfl, S', A'⟩; have S1 := Aside0.mk S'; have SA1 := Aside0.mk A'; clear S' A'))
  go_end0
  obtain ⟨f', s1, s2⟩ := S1.out
  exact ⟨rfl, ⟨f', s1.up climb, s2⟩, SA1.out.climb climb⟩
end Go.Proofs.YtefhcgnamfnkbaaDoor.Pr
