/- squash: symbol, walked by hand. -/
import Derived.Test.YtefhcgnamfnkbaaDoorSqa
namespace Go.Proofs.YtefhcgnamfnkbaaDoor.Pr
open Go.RowKit Go.Proofs.YtefhcgnamfnkbaaDoorW.PrintWords Go.Proofs.YtefhcgnamfnkbaaDoorW.PrintLast Go.Proofs.YtefhcgnamfnkbaaDoorW.PrintMore
set_option linter.unusedVariables false
set_option linter.unusedSimpArgs false

/-- The decoder at p, apart from the block q. -/
structure Dr (w : World) (p q : Nat) (f t : Nat → Int) (A : Option Addr) (n c : Nat) : Prop where
  cf : ∀ i, i < 16 → w.cell? ⟨p, i, none⟩ = some (.int .i64 (f i))
  ct : ∀ i, i < 16 → w.cell? ⟨p, 16 + i, none⟩ = some (.int .i64 (t i))
  cl : w.cell? ⟨p, 32, none⟩ = some (.slice A n c)
  el : ∀ j, j < n → ∃ ad v, A = some ad ∧ ad.block ≠ q ∧ w.cell? (ad.add j) = some (.int .i64 v) ∧ 0 ≤ v ∧ v < 272
  ne : p ≠ q
  le : n ≤ 1000000
  f0 : ∀ i, i < 16 → 0 ≤ f i ∧ f i ≤ 1099511627776
  t0 : ∀ i, i < 16 → 0 ≤ t i ∧ t i ≤ n
theorem cell_kept {w w' : World} {q : Nat} {a : Addr} {v : Value} (h : w.cell? a = some v) (k : Ap w.heap.size q w w') (hq : a.block ≠ q) : w'.cell? a = some v :=
  (World.cell?_of_block (k.block a.block (World.block_lt_of_cell? w a h) hq)).trans h
theorem Dr.move {w w' : World} {p q : Nat} {f t : Nat → Int} {A : Option Addr} {n c : Nat} (h : Dr w p q f t A n c) (k : Ap w.heap.size q w w') : Dr w' p q f t A n c :=
  ⟨fun i hi => cell_kept (h.cf i hi) k h.ne, fun i hi => cell_kept (h.ct i hi) k h.ne, cell_kept h.cl k h.ne, fun j hj => by
    obtain ⟨ad, v, e, hb, hc, h0, h1⟩ := h.el j hj
    exact ⟨ad, v, e, hb, cell_kept hc k (by rw [add_block]; exact hb), h0, h1⟩, h.ne, h.le, h.f0, h.t0⟩
set_option maxHeartbeats 4000000 in
set_option maxRecDepth 100000 in
theorem symbol_calls (p q : Nat) (s : ByteArray) (i : Int) (f t : Nat → Int) (A : Option Addr) (n c : Nat) (w : World) (h : Br w q s i) (d : Dr w p q f t A n c) :
    Calls Tryd.prog 76 #[.pointer (some ⟨p, 0, none⟩), .pointer (some ⟨q, 0, none⟩)] w fun r w' => ∃ v e j, r = .returned (.tuple #[.int .i64 v, .int .i64 e]) ∧ (e = 0 → 0 ≤ v ∧ v < 272) ∧ Br w' q s j ∧ Ap w.heap.size q w w' := by
  have H := Aside0.mk h
  have D := Aside0.mk d
  have hle := d.le
  clear h d
  go_enter Tryd.func76, Tryd.ntmps76
  go_wp2_with (fail)
  go_loopg [6, 7] 15 (fun kq v6 v7 w' => ∃ (m : Nat) (v j : Int), v6 = .int .i64 v ∧ v7 = .int .i64 (m : Int) ∧ m + kq = 16 ∧ 1 ≤ m ∧ 0 ≤ v ∧ v < 2 ^ (m - 1) ∧ Aside0 (Br w' q s j) ∧ Aside0 (Ap w.heap.size q w w'))
  case atStart => exact ⟨1, 0, i, rfl, rfl, by omega, by omega, by omega, by decide, H, ⟨Ap.refl _ _ _⟩⟩
  case round =>
    clear H
    obtain ⟨m, v, j, rfl, rfl, hk, hm1, hv0, hv1, S, SA⟩ := hrel
    by_cases hm : m ≤ 15
    · obtain ⟨g1, hg1⟩ : ∃ g1, gk = g1 + 1 := ⟨gk - 1, by omega⟩
      have HG := Aside0.mk hg1
      have hp := pow_le15 (i := m - 1) (by omega)
      have hp2 : v < 32768 := by omega
      have HV := Aside0.mk hv1
      clear hv1 hp hg1
      go_upto_region 8 with (first | (go_at_call 79; (with_reducible refine (bit_calls q s j _ S.out).mono ?_); rintro _ w1 ⟨b, j', rfl, hb, S', A'⟩; have SA_ := Aside0.mk (SA.out.seq A'); have S_ := Aside0.mk S'; clear S SA S' A'; have S := S_; have SA := SA_; clear S_ SA_))
      · go_ret2
        exact ⟨0, 11, j', rfl, fun h => absurd h (by decide), S.out.up climb, SA.out.climb climb⟩
      · have hb' : 0 ≤ b ∧ b ≤ 1 := by omega
        have D1 := Aside0.mk (D.out.move SA.out)
        have k0 := D1.out.cl
        have k1 := D1.out.cf m (by omega)
        have k2 := D1.out.ct m (by omega)
        have hf := D1.out.f0 m (by omega)
        have ht := D1.out.t0 m (by omega)
        have nxt : ∃ (m_1 : Nat) (v_1 j : Int), Value.int .i64 (2 * v + b) = .int .i64 v_1 ∧ Value.int .i64 ((m : Int) + 1) = .int .i64 (m_1 : Int) ∧ m_1 + g1 = 16 ∧ 1 ≤ m_1 ∧ 0 ≤ v_1 ∧ v_1 < 2 ^ (m_1 - 1) ∧ Aside0 (Br w1 q s j) ∧ Aside0 (Ap w.heap.size q w w1) := by
          have e : (2 : Int) ^ (m + 1 - 1) = 2 * 2 ^ (m - 1) := by
            rw [show m + 1 - 1 = (m - 1) + 1 from by omega, Int.pow_succ]; omega
          have hv := HV.out
          have hg := HG.out
          exact ⟨m + 1, 2 * v + b, j', rfl, by go_num, by omega, by omega, by omega, by omega, S, SA⟩
        have NX := Aside0.mk nxt
        clear nxt
        generalize f m = F at k1 hf
        generalize t m = T at k2 ht
        clear hb
        by_cases h15 : m < 15
        · have k3 := D1.out.ct (m + 1) (by omega)
          have ht1 := D1.out.t0 (m + 1) (by omega)
          generalize t (m + 1) = T1 at k3 ht1
          by_cases hK : 0 ≤ 2 * v + b - F ∧ 2 * v + b - F < T1 - T
          · obtain ⟨ad, val, rfl, _, hc, hv0', hv1'⟩ := D1.out.el (T + (2 * v + b - F)).toNat (by omega)
            have r1 : 0 ≤ 2 * v + b - F := hK.1
            have r2 : 2 * v + b - F < T1 - T := hK.2
            have r3 : 0 ≤ T + (2 * v + b - F) := by omega
            have r4 : T + (2 * v + b - F) < (n : Int) := by omega
            clear hK
            go_wp2
            repeat (go_quiet (fail); try go_wp2)
            go_ret2
            exact ⟨val, 0, j', rfl, fun _ => ⟨hv0', hv1'⟩, S.out.up climb, SA.out.climb climb⟩
          · go_wp2
            all_goals go_roundg g1
            case measure => have := HG.out; omega
            case rel => exact NX.out
            case measure => have := HG.out; omega
            case rel => exact NX.out
        · have r15 : ¬ (m : Int) < 15 := by omega
          by_cases hK : 0 ≤ 2 * v + b - F ∧ 2 * v + b - F < (n : Int) - T
          · obtain ⟨ad, val, rfl, _, hc, hv0', hv1'⟩ := D1.out.el (T + (2 * v + b - F)).toNat (by omega)
            have r1 : 0 ≤ 2 * v + b - F := hK.1
            have r2 : 2 * v + b - F < (n : Int) - T := hK.2
            have r3 : 0 ≤ T + (2 * v + b - F) := by omega
            have r4 : T + (2 * v + b - F) < (n : Int) := by omega
            clear hK
            go_wp2
            repeat (go_quiet (fail); try go_wp2)
            go_ret2
            exact ⟨val, 0, j', rfl, fun _ => ⟨hv0', hv1'⟩, S.out.up climb, SA.out.climb climb⟩
          · go_wp2
            all_goals go_roundg g1
            case measure => have := HG.out; omega
            case rel => exact NX.out
            case measure => have := HG.out; omega
            case rel => exact NX.out
    · go_wp2
      go_ret2
      exact ⟨0, 4, j, rfl, fun h => absurd h (by decide), S.out.up climb, SA.out.climb climb⟩
end Go.Proofs.YtefhcgnamfnkbaaDoor.Pr
