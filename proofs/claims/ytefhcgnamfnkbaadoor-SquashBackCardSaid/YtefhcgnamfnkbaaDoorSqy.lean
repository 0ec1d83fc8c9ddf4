/- slices.stableCmpFunc, SortStableFunc at squash.bundle, walked by hand. -/
import Derived.Test.YtefhcgnamfnkbaaDoorSqr1
import Derived.Test.YtefhcgnamfnkbaaDoorSqr2
import Derived.Test.YtefhcgnamfnkbaaDoorSqr3
namespace Go.Proofs.YtefhcgnamfnkbaaDoor.Pr
open Go.RowKit Go.Proofs.YtefhcgnamfnkbaaDoorW.PrintWords Go.Proofs.YtefhcgnamfnkbaaDoorW.PrintLast Go.Proofs.YtefhcgnamfnkbaaDoorW.PrintMore
set_option linter.unusedVariables false
set_option linter.unusedSimpArgs false
variable {w w' : World} {g n : Nat} {Q : Option Addr → Nat → Nat → Prop}
theorem sym_calls (cap : Nat) (hn : n ≤ 1000000) : ∀ (d : Nat) (a m b : Nat) (w : World), Bv w g n Q → a < m → m < b → b ≤ n → b - a ≤ d →
    Calls Tryd.prog 132 #[.slice (some ⟨g, 0, none⟩) n cap, .int .i64 (a : Int), .int .i64 (m : Int), .int .i64 (b : Int), .func (.func 75) #[] #[]] w fun r w' => r = .returned (.tuple #[]) ∧ Bv w' g n Q ∧ Ap w.heap.size g w w'
  | 0, a, m, b, w, h, ham, hmb, hb, hd => by omega
  | d + 1, a, m, b, w, h, ham, hmb, hb, hd => by
    by_cases c1 : (m : Int) - a = 1
    · exact sym_one cap hn a m b w h ham hmb hb c1
    · by_cases c2 : (b : Int) - m = 1
      · exact sym_two cap hn a m b w h ham hmb hb c1 c2
      · exact sym_gen cap hn d (fun a m b w h1 h2 h3 h4 h5 => sym_calls cap hn d a m b w h1 h2 h3 h4 h5) a m b w h ham hmb hb c1 c2 hd
theorem sym_all (cap : Nat) (hn : n ≤ 1000000) (a m b : Int) (w : World) (h : Bv w g n Q) (a0 : 0 ≤ a) (ham : a < m) (hmb : m < b) (hb : b ≤ n) :
    Calls Tryd.prog 132 #[.slice (some ⟨g, 0, none⟩) n cap, .int .i64 a, .int .i64 m, .int .i64 b, .func (.func 75) #[] #[]] w fun r w' => r = .returned (.tuple #[]) ∧ Bv w' g n Q ∧ Ap w.heap.size g w w' := by
  obtain ⟨a, rfl⟩ := Int.eq_ofNat_of_zero_le a0
  obtain ⟨m, rfl⟩ := Int.eq_ofNat_of_zero_le (show 0 ≤ m by omega)
  obtain ⟨b, rfl⟩ := Int.eq_ofNat_of_zero_le (show 0 ≤ b by omega)
  exact sym_calls cap hn (b - a) a m b w h (by omega) (by omega) (by omega) (Nat.le_refl _)
theorem ins_all (a b : Int) (cap : Nat) (w : World) (h : Bv w g n Q) (a0 : 0 ≤ a) (hab : a ≤ b) (hb : b ≤ n) (hn : n ≤ 1000000) :
    Calls Tryd.prog 131 #[.slice (some ⟨g, 0, none⟩) n cap, .int .i64 a, .int .i64 b, .func (.func 75) #[] #[]] w fun r w' => r = .returned (.tuple #[]) ∧ Bv w' g n Q ∧ Ap w.heap.size g w w' := by
  obtain ⟨a, rfl⟩ := Int.eq_ofNat_of_zero_le a0
  obtain ⟨b, rfl⟩ := Int.eq_ofNat_of_zero_le (show 0 ≤ b by omega)
  exact insertion_calls a b cap w h (by omega) (by omega) hn
set_option maxHeartbeats 8000000 in
set_option maxRecDepth 100000 in
theorem stable_calls (cap : Nat) (w : World) (h : Bv w g n Q) (hn : n ≤ 1000000) :
    Calls Tryd.prog 111 #[.slice (some ⟨g, 0, none⟩) n cap, .int .i64 (n : Int), .func (.func 75) #[] #[]] w fun r w' => r = .returned (.tuple #[]) ∧ Bv w' g n Q ∧ Ap w.heap.size g w w' := by
  have H := Aside0.mk h
  clear h
  go_enter Tryd.func111, Tryd.ntmps111
  go_wp2_with (fail)
  go_loopg [7, 8] (n + 1) (fun kq v7 v8 w' => ∃ (a b : Int), v7 = .int .i64 a ∧ v8 = .int .i64 b ∧ 0 ≤ a ∧ a + 20 = b ∧ a ≤ n ∧ n + 1 ≤ b - 20 + kq ∧ Aside0 (Bv w' g n Q) ∧ Aside0 (Ap w.heap.size g w w'))
  case atStart => exact ⟨0, 20, rfl, rfl, by omega, by omega, by omega, by omega, H, ⟨Ap.refl _ _ _⟩⟩
  case round =>
    clear H
    obtain ⟨a, b, rfl, rfl, ha0, hab, han, hk, S, SA⟩ := hrel
    by_cases hb : b ≤ n
    · go_wp2_with (first | (go_at_call 131; (with_reducible refine (ins_all a b cap _ (S.out.up climb) (by omega) (by omega) (by omega) hn).mono ?_); rintro _ w1 ⟨rfl, S', A'⟩; have S1 := Aside0.mk S'; have SA1 := Aside0.mk ((SA.out.climb climb).seq A'); clear S' A'))
      go_roundg (n + 1 - b).toNat
      case measure => omega
      case rel => exact ⟨b, b + 20, rfl, rfl, by omega, by omega, by omega, by omega, S1, SA1⟩
    · go_wp2_with (first | (go_at_call 131; (with_reducible refine (ins_all a n cap _ (S.out.up climb) (by omega) (by omega) (by omega) hn).mono ?_); rintro _ w1 ⟨rfl, S', A'⟩; have S1 := Aside0.mk S'; have SA1 := Aside0.mk ((SA.out.climb climb).seq A'); clear S' A' S SA))
      go_loopg [6] n (fun kq v6 w' => ∃ (z : Int), v6 = .int .i64 z ∧ 20 ≤ z ∧ z ≤ 4000000 ∧ n ≤ z + kq ∧ Aside0 (Bv w' g n Q) ∧ Aside0 (Ap w.heap.size g w w'))
      case atStart => exact ⟨20, rfl, by omega, by omega, by omega, S1, SA1⟩
      case round =>
        clear S1 SA1
        obtain ⟨z, rfl, hz0, hz1, hkz, S, SA⟩ := hrel
        by_cases hzn : z < n
        · go_wp2_with (fail)
          go_loopg [7, 8] (n + 1) (fun kq v7 v8 w' => ∃ (a b : Int), v7 = .int .i64 a ∧ v8 = .int .i64 b ∧ 0 ≤ a ∧ a + 2 * z = b ∧ a ≤ n ∧ n + 1 ≤ a + kq ∧ Aside0 (Bv w' g n Q) ∧ Aside0 (Ap w.heap.size g w w'))
          case atStart => exact ⟨0, 2 * z, rfl, rfl, by omega, by omega, by omega, by omega, S, SA⟩
          case round =>
            clear S SA
            obtain ⟨a, b, rfl, rfl, ha0, hab, han, hk2, S, SA⟩ := hrel
            by_cases hb : b ≤ n
            · go_wp2_with (first | (go_at_call 132; (with_reducible refine (sym_all cap hn a (a + z) b _ (S.out.up climb) (by omega) (by omega) (by omega) (by omega)).mono ?_); rintro _ w1 ⟨rfl, S', A'⟩; have S1 := Aside0.mk S'; have SA1 := Aside0.mk ((SA.out.climb climb).seq A'); clear S' A'))
              go_roundg (n + 1 - b).toNat
              case measure => omega
              case rel => exact ⟨b, b + 2 * z, rfl, rfl, by omega, by omega, by omega, by omega, S1, SA1⟩
            · by_cases hm : a + z < n
              · go_wp2_with (first | (go_at_call 132; (with_reducible refine (sym_all cap hn a (a + z) n _ (S.out.up climb) (by omega) (by omega) (by omega) (by omega)).mono ?_); rintro _ w1 ⟨rfl, S', A'⟩; have S1 := Aside0.mk S'; have SA1 := Aside0.mk ((SA.out.climb climb).seq A'); clear S' A'))
                go_roundg (n - z * 2).toNat
                case measure => omega
                case rel => exact ⟨z * 2, rfl, by omega, by omega, by omega, ⟨S1.out.up climb⟩, ⟨SA1.out.climb climb⟩⟩
              · go_wp2_with (fail)
                go_roundg (n - z * 2).toNat
                case measure => omega
                case rel => exact ⟨z * 2, rfl, by omega, by omega, by omega, ⟨S.out.up climb⟩, ⟨SA.out.climb climb⟩⟩
        · go_wp2
          go_end0
          exact ⟨rfl, S.out.up climb, SA.out.climb climb⟩
theorem sortStable_calls (cap : Nat) (w : World) (h : Bv w g n Q) (hn : n ≤ 1000000) :
    Calls Tryd.prog 74 #[.slice (some ⟨g, 0, none⟩) n cap, .func (.func 75) #[] #[]] w fun r w' => r = .returned (.tuple #[]) ∧ Bv w' g n Q ∧ Ap w.heap.size g w w' := by
  have H := Aside0.mk h
  clear h
  go_enter Tryd.func74, Tryd.ntmps74
  go_wp2_with (first | (go_at_call 111; (with_reducible refine (stable_calls cap _ H.out hn).mono ?_); rintro _ w1 ⟨rfl, S', A'⟩; have S1 := Aside0.mk S'; have SA1 := Aside0.mk A'; clear S' A'))
  go_end0
  exact ⟨rfl, S1.out.up climb, SA1.out.climb climb⟩
end Go.Proofs.YtefhcgnamfnkbaaDoor.Pr
