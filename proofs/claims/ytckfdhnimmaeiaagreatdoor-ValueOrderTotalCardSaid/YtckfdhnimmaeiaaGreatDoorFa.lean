/- Small functions that the order of values needs: comparisons, flags, names of faults, text of any string. -/
import Derived.Test.YtckfdhnimmaeiaaGreatDoorEg
import Derived.Test.YtckfdhnimmaeiaaGreatDoorShelg
import Derived.Shelf.Unicode.DecodeLastEight
import Derived.Laws.Cover1
namespace Go.Proofs.YtckfdhnimmaeiaaGreatDoor.Pr
open Go.RowKit Go.Proofs.YtckfdhnimmaeiaaGreatDoorW.PrintWords Go.Proofs.YtckfdhnimmaeiaaGreatDoorW.PrintLast Go.Proofs.YtckfdhnimmaeiaaGreatDoorW.PrintMore
set_option linter.unusedVariables false
set_option linter.unusedSimpArgs false
/-- How two numbers compare. -/
def cmpI (x y : Int) : Int := if x < y then -1 else if y < x then 1 else 0
set_option maxHeartbeats 2000000 in
set_option maxRecDepth 100000 in
theorem cmpI_calls (x y : Int) (w : World) : Calls Tryz.prog 24 #[.int .i64 x, .int .i64 y] w fun r w' => r = .returned (.int .i64 (cmpI x y)) ∧ Below w.heap.size w w' := by
  have NX := Aside0.mk (fun w => Tryz.cmp_isNaN_int2 x w)
  have NY := Aside0.mk (fun w => Tryz.cmp_isNaN_int2 y w)
  unfold cmpI
  by_cases h1 : x < y
  · rw [if_pos h1]
    go_enter Tryz.func24, Tryz.ntmps24
    go_wp2_with (first
      | (go_at_call 52; (with_reducible refine (NX.out _).mono ?_); rintro _ w1 ⟨rfl, rfl⟩)
      | (go_at_call 52; (with_reducible refine (NY.out _).mono ?_); rintro _ w1 ⟨rfl, rfl⟩))
    go_ret
    exact ⟨rfl, climb⟩
  · rw [if_neg h1]
    by_cases h2 : y < x
    · rw [if_pos h2]
      go_enter Tryz.func24, Tryz.ntmps24
      go_wp2_with (first
        | (go_at_call 52; (with_reducible refine (NX.out _).mono ?_); rintro _ w1 ⟨rfl, rfl⟩)
        | (go_at_call 52; (with_reducible refine (NY.out _).mono ?_); rintro _ w1 ⟨rfl, rfl⟩))
      go_ret
      exact ⟨rfl, climb⟩
    · rw [if_neg h2]
      go_enter Tryz.func24, Tryz.ntmps24
      go_wp2_with (first
        | (go_at_call 52; (with_reducible refine (NX.out _).mono ?_); rintro _ w1 ⟨rfl, rfl⟩)
        | (go_at_call 52; (with_reducible refine (NY.out _).mono ?_); rintro _ w1 ⟨rfl, rfl⟩))
      go_ret
      exact ⟨rfl, climb⟩
/-- How two texts compare. -/
def cmpS (x y : ByteArray) : Int := if Op.bytesLess x.toList y.toList = true then -1 else if x.toList == y.toList then 0 else 1
set_option maxHeartbeats 2000000 in
set_option maxRecDepth 100000 in
theorem nanS_calls (x : ByteArray) (w : World) : Calls Tryz.prog 55 #[.string x] w fun r w' => r = .returned (.bool false) ∧ w' = w := by
  have q : (x.toList == x.toList) = true := beq_self_eq_true _
  go_enter Tryz.func55, Tryz.ntmps55
  go_wp2
  go_ret
  exact ⟨rfl, rfl⟩
set_option maxHeartbeats 2000000 in
set_option maxRecDepth 100000 in
theorem cmpS_calls (x y : ByteArray) (w : World) : Calls Tryz.prog 28 #[.string x, .string y] w fun r w' => r = .returned (.int .i64 (cmpS x y)) ∧ Below w.heap.size w w' := by
  have NX := Aside0.mk (fun w => nanS_calls x w)
  have NY := Aside0.mk (fun w => nanS_calls y w)
  unfold cmpS
  cases h1 : Op.bytesLess x.toList y.toList with
  | true =>
    rw [if_pos rfl]
    go_enter Tryz.func28, Tryz.ntmps28
    go_wp2_with (first
      | (go_at_call 55; (with_reducible refine (NX.out _).mono ?_); rintro _ w1 ⟨rfl, rfl⟩)
      | (go_at_call 55; (with_reducible refine (NY.out _).mono ?_); rintro _ w1 ⟨rfl, rfl⟩))
    go_ret
    exact ⟨rfl, climb⟩
  | false =>
    rw [if_neg (by decide)]
    cases h2 : (x.toList == y.toList) with
    | true =>
      rw [if_pos rfl]
      go_enter Tryz.func28, Tryz.ntmps28
      go_wp2_with (first
        | (go_at_call 55; (with_reducible refine (NX.out _).mono ?_); rintro _ w1 ⟨rfl, rfl⟩)
        | (go_at_call 55; (with_reducible refine (NY.out _).mono ?_); rintro _ w1 ⟨rfl, rfl⟩))
      go_ret
      exact ⟨rfl, climb⟩
    | false =>
      rw [if_neg (by decide)]
      go_enter Tryz.func28, Tryz.ntmps28
      go_wp2_with (first
        | (go_at_call 55; (with_reducible refine (NX.out _).mono ?_); rintro _ w1 ⟨rfl, rfl⟩)
        | (go_at_call 55; (with_reducible refine (NY.out _).mono ?_); rintro _ w1 ⟨rfl, rfl⟩))
      go_ret
      exact ⟨rfl, climb⟩
set_option maxHeartbeats 2000000 in
set_option maxRecDepth 100000 in
theorem flag_calls (b : Bool) (w : World) : Calls Tryz.prog 54 #[.bool b] w fun r w' => r = .returned (.int .i64 (if b = true then 1 else 0)) ∧ Below w.heap.size w w' := by
  cases b <;> (go_enter Tryz.func54, Tryz.ntmps54; go_wp2; go_ret; exact ⟨rfl, climb⟩)
/-- The first of two numbers that is not 0. -/
def orI (x y : Int) : Int := if x = 0 then y else x
set_option maxHeartbeats 2000000 in
set_option maxRecDepth 100000 in
theorem orI_calls (x y : Int) (g cap : Nat) (w : World) (h0 : w.cell? ⟨g, 0, none⟩ = some (.int .i64 x)) (h1 : w.cell? ⟨g, 1, none⟩ = some (.int .i64 y)) :
    Calls Tryz.prog 26 #[.slice (some ⟨g, 0, none⟩) 2 cap] w fun r w' => r = .returned (.int .i64 (orI x y)) ∧ Below w.heap.size w w' := by
  have H0 := Aside0.mk h0
  have H1 := Aside0.mk h1
  clear h0 h1
  go_enter Tryz.func26, Tryz.ntmps26
  go_wp2_with (fail)
  go_loopg [8] 2 (fun kq v8 w' => ∃ e : Nat, v8 = .int .i64 (e : Int) ∧ e + kq = 2 ∧ (1 ≤ e → x = 0) ∧ (2 ≤ e → y = 0) ∧ w' = w)
  case atStart => exact ⟨0, rfl, rfl, by omega, by omega, rfl⟩
  case round =>
    obtain ⟨e, rfl, hk, hx, hy, rfl⟩ := hrel
    have h0 := H0.out
    have h1 := H1.out
    have : e = 0 ∨ e = 1 ∨ e = 2 := by omega
    rcases this with rfl | rfl | rfl
    · by_cases hx0 : x = 0
      · subst hx0
        go_wp2
        go_roundg (gk - 1)
        case measure => omega
        case rel => exact ⟨1, rfl, by omega, fun _ => by trivial, fun h => absurd h (by omega), rfl⟩
      · have q : (x == 0) = false := beq_eq_false_iff_ne.2 hx0
        go_wp2
        go_ret
        exact ⟨by simp [orI, hx0], climb⟩
    · have hx0 := hx (Nat.le_refl _)
      subst hx0
      by_cases hy0 : y = 0
      · subst hy0
        go_wp2
        go_roundg (gk - 1)
        case measure => omega
        case rel => exact ⟨2, rfl, by omega, fun _ => by trivial, fun _ => by trivial, rfl⟩
      · have q : (y == 0) = false := beq_eq_false_iff_ne.2 hy0
        go_wp2
        go_ret
        exact ⟨by simp [orI], climb⟩
    · have hx0 := hx (by omega)
      have hy0 := hy (by omega)
      subst hx0
      subst hy0
      go_wp2
      go_ret
      exact ⟨by simp [orI], climb⟩
set_option maxHeartbeats 2000000 in
set_option maxRecDepth 100000 in
/-- value.FaultText: some text, and none where there is no such fault. -/
theorem fault_any (c : Int) : ∃ f : ByteArray, ∀ w, Fs w → Calls Tryz.prog 21 #[.int .i64 c] w fun r w' => r = .returned (.string f) ∧ Below w.heap.size w w' := by
  by_cases h1 : c < 1
  · refine ⟨⟨#[]⟩, fun w _ => ?_⟩
    go_enter Tryz.func21, Tryz.ntmps21
    go_wp2
    go_ret
    exact ⟨rfl, climb⟩
  · by_cases h9 : 9 ≤ c
    · refine ⟨⟨#[]⟩, fun w _ => ?_⟩
      go_enter Tryz.func21, Tryz.ntmps21
      go_wp2
      go_ret
      exact ⟨rfl, climb⟩
    · obtain ⟨n, rfl⟩ : ∃ n : Nat, c = (n : Int) := ⟨c.toNat, by omega⟩
      obtain ⟨f, hf⟩ : ∃ f, faultsL[n]? = some f := ⟨_, List.getElem?_eq_getElem (by show n < 9; omega)⟩
      refine ⟨f, fun w hF => ?_⟩
      have hc := hF n f hf
      have hn : n < 9 := by omega
      clear hF hf
      go_enter Tryz.func21, Tryz.ntmps21
      go_wp2
      go_ret
      exact ⟨rfl, climb⟩
set_option maxHeartbeats 2000000 in
set_option maxRecDepth 100000 in
/-- flow.Char answers something, always the same. -/
theorem char_any (c : Int) : ∃ b : Bool, ∀ w, Calls Tryz.prog 51 #[.int .i64 c] w fun x w' => x = .returned (.bool b) ∧ Below w.heap.size w w' := by
  by_cases q1 : c = 9
  · subst q1
    exact ⟨true, fun w => by go_enter Tryz.func51, Tryz.ntmps51; go_wp2; go_ret; exact ⟨rfl, climb⟩⟩
  by_cases q2 : c = 10
  · subst q2
    exact ⟨true, fun w => by go_enter Tryz.func51, Tryz.ntmps51; go_wp2; go_ret; exact ⟨rfl, climb⟩⟩
  have e1 : (c == 9) = false := beq_eq_false_iff_ne.2 q1
  have e2 : (c == 10) = false := beq_eq_false_iff_ne.2 q2
  clear q1 q2
  by_cases h1 : 32 ≤ c
  · by_cases h2 : c < 127
    · exact ⟨true, fun w => by go_enter Tryz.func51, Tryz.ntmps51; go_wp2; go_ret; exact ⟨rfl, climb⟩⟩
    · by_cases h3 : 160 ≤ c
      · by_cases h4 : c < 55296
        · exact ⟨true, fun w => by go_enter Tryz.func51, Tryz.ntmps51; go_wp2; go_ret; exact ⟨rfl, climb⟩⟩
        · by_cases h5 : 57343 < c
          · by_cases h6 : c ≤ 1114111
            · exact ⟨true, fun w => by go_enter Tryz.func51, Tryz.ntmps51; go_wp2; go_ret; exact ⟨rfl, climb⟩⟩
            · exact ⟨false, fun w => by go_enter Tryz.func51, Tryz.ntmps51; go_wp2; go_ret; exact ⟨rfl, climb⟩⟩
          · exact ⟨false, fun w => by go_enter Tryz.func51, Tryz.ntmps51; go_wp2; go_ret; exact ⟨rfl, climb⟩⟩
      · have h5 : ¬ 57343 < c := by omega
        exact ⟨false, fun w => by go_enter Tryz.func51, Tryz.ntmps51; go_wp2; go_ret; exact ⟨rfl, climb⟩⟩
  · have h3 : ¬ 160 ≤ c := by omega
    have h5 : ¬ 57343 < c := by omega
    exact ⟨false, fun w => by go_enter Tryz.func51, Tryz.ntmps51; go_wp2; go_ret; exact ⟨rfl, climb⟩⟩
end Go.Proofs.YtckfdhnimmaeiaaGreatDoor.Pr
