/- squash.codes, exactly. -/
import Derived.Test.YtefhcgnamfnkbaaDoorSya
import Derived.Test.YtefhcgnamfnkbaaDoorSbj
namespace Go.Proofs.YtefhcgnamfnkbaaDoor.Pr
open Go.RowKit Go.Proofs.YtefhcgnamfnkbaaDoorW.PrintWords Go.Proofs.YtefhcgnamfnkbaaDoorW.PrintLast Go.Proofs.YtefhcgnamfnkbaaDoorW.PrintMore
open Go.Proofs.YtefhcgnamfnkbaaDoor.Sb
set_option linter.unusedVariables false
set_option linter.unusedSimpArgs false
/-- The codes given before symbol e of length m. -/
def codeTo (ln : Nat → Nat) (m e s : Nat) : Int := if (1 ≤ ln s ∧ ln s < m) ∨ (ln s = m ∧ s < e) then (codeOf ln s : Int) else 0
theorem codeTo_yes {ln : Nat → Nat} {m e : Nat} (hm : 1 ≤ m) (hm2 : m ≤ 15) (h : ln e = m) (s : Nat) : codeTo ln m (e + 1) s = if s = e then ((fstC ln m + cntL ln m e : Nat) : Int) else codeTo ln m e s := by
  unfold codeTo
  by_cases hs : s = e
  · subst hs
    rw [if_pos rfl, if_pos (.inr ⟨h, Nat.lt_succ_self _⟩)]
    unfold codeOf
    rw [if_pos (by omega), h]
  · rw [if_neg hs]
    by_cases h2 : (1 ≤ ln s ∧ ln s < m) ∨ (ln s = m ∧ s < e)
    · rw [if_pos h2, if_pos (by omega)]
    · rw [if_neg h2, if_neg (by omega)]
theorem codeTo_no {ln : Nat → Nat} {m e : Nat} (h : ¬ ln e = m) (s : Nat) : codeTo ln m (e + 1) s = codeTo ln m e s := by
  unfold codeTo
  by_cases h2 : (1 ≤ ln s ∧ ln s < m) ∨ (ln s = m ∧ s < e)
  · rw [if_pos h2, if_pos (by omega)]
  · rw [if_neg h2, if_neg (by
      intro h3
      by_cases hs : s = e
      · subst hs; omega
      · omega)]
theorem codeTo_next {ln : Nat → Nat} {m s : Nat} (hm : 1 ≤ m) (hs : s < 272) : codeTo ln (m + 1) 0 s = codeTo ln m 272 s := by
  unfold codeTo
  by_cases h2 : (1 ≤ ln s ∧ ln s < m) ∨ (ln s = m ∧ s < 272)
  · rw [if_pos h2, if_pos (by omega)]
  · rw [if_neg h2, if_neg (by omega)]
theorem codeTo_end {ln : Nat → Nat} (s : Nat) : (codeOf ln s : Int) = codeTo ln 16 0 s := by
  unfold codeTo
  by_cases h2 : (1 ≤ ln s ∧ ln s < 16) ∨ (ln s = 16 ∧ s < 0)
  · rw [if_pos h2]
  · rw [if_neg h2]
    unfold codeOf
    rw [if_neg (by omega)]; rfl
theorem wrap_sum (s P : Int) (h0 : 0 ≤ s) (h1 : s ≤ 133693440) (p0 : 0 ≤ P) (p1 : P ≤ 32768) : wrap64 (s + wrap64 P) = s + P := by
  unfold wrap64; omega
set_option maxHeartbeats 4000000 in
set_option maxRecDepth 100000 in
theorem codes_x (g : Nat) (ln : Nat → Nat) (w : World) (h : Ix w g 272 (fun j => (ln j : Int))) :
    Calls Tryd.prog 31 #[.slice (some ⟨g, 0, none⟩) 272 272] w fun r w' => ∃ q, r = .returned (.tuple #[.slice (some ⟨q, 0, none⟩) 272 272, .bool (decide ((sumTo ln 15 : Int) ≤ 32768))]) ∧ Ix w' q 272 (fun s => (codeOf ln s : Int)) ∧ Below w.heap.size w w' := by
  have H := Aside0.mk h
  have hlt := h.lt
  clear h
  have hmk : ∀ w, (Instr.makeSlice 63 (.int .i64 272) (.int .i64 272)).run Tryd.prog w = .ok (.slice (some ⟨w.heap.size, 0, none⟩) 272 272) (w.alloc (.cells (madeCells #[.int .i64 0] 272) 3)) := fun w => make_ints 272 (by omega) w
  go_enter Tryd.func31, Tryd.ntmps31
  go_wp2_with (fail)
  go_loopg [5, 6, 7] 15 (fun kq v5 v6 v7 w' => ∃ (m c s : Nat), v5 = .int .i64 (c : Int) ∧ v6 = .int .i64 (s : Int) ∧ v7 = .int .i64 (m : Int) ∧ m + kq = 16 ∧ 1 ≤ m ∧ c ≤ 40000272 ∧ s ≤ 133693440 ∧ Aside0 (2 * c = fstC ln m ∧ s = sumTo ln (m - 1)) ∧ Aside0 (Ix w' w.heap.size 272 (codeTo ln m 0)) ∧ Aside0 (Below w.heap.size w w'))
  case atStart => exact ⟨1, 0, 0, rfl, rfl, rfl, by omega, by omega, by omega, by omega, ⟨rfl, rfl⟩, ⟨(Ix.made w 272).cong fun i _ => by unfold codeTo; rw [if_neg (by omega)]⟩, ⟨climb⟩⟩
  case round =>
    obtain ⟨m, c, s, rfl, rfl, rfl, hk, hm1, hc, hs, E, S, SB⟩ := hrel
    by_cases hm : m ≤ 15
    · obtain ⟨g1, hg1⟩ : ∃ g1, gk = g1 + 1 := ⟨gk - 1, by omega⟩
      have HG := Aside0.mk hg1
      clear hg1
      have HF := Aside0.mk (fstC_small ln (show m ≤ 16 by omega))
      go_wp2_with (fail)
      go_loopg [5, 6, 19] 272 (fun kq v5 v6 v19 w' => ∃ (e c s : Nat), v5 = .int .i64 (c : Int) ∧ v6 = .int .i64 (s : Int) ∧ v19 = .int .i64 (e : Int) ∧ e + kq = 272 ∧ c ≤ 40000272 ∧ s ≤ 133693440 ∧ Aside0 (c = fstC ln m + cntL ln m e ∧ s = sumTo ln (m - 1) + cntL ln m e * 2 ^ (15 - m)) ∧ Aside0 (Ix w' w.heap.size 272 (codeTo ln m e)) ∧ Aside0 (Below w.heap.size w w'))
      case atStart => have h1 := E.out; have h2 := HF.out; exact ⟨0, 2 * c, s, by go_num, rfl, rfl, by omega, by omega, hs, ⟨by rw [h1.1]; rfl, by rw [h1.2]; simp [cntL]⟩, S, SB⟩
      case round =>
        clear S SB E hc hs
        obtain ⟨e, c1, s1, rfl, rfl, rfl, hk2, hc, hs, E, S, SB⟩ := hrel
        by_cases he : e < 272
        · obtain ⟨g2, hg2⟩ : ∃ g2, gk = g2 + 1 := ⟨gk - 1, by omega⟩
          have HG2 := Aside0.mk hg2
          clear hg2
          have cv := (H.out.up (bl SB.out)).at_ he
          have fr := S.out.free e
          have co := S.out.at_ he
          obtain ⟨v, hv0⟩ : ∃ v, v = ln e := ⟨_, rfl⟩
          rw [← hv0] at cv
          have HV := Aside0.mk hv0
          clear hv0
          by_cases hv : v = m
          · have qv : ((v : Int) == (m : Int)) = true := beq_iff_eq.2 (by omega)
            have HV2 := Aside0.mk hv
            clear hv
            go_wp2_with (fail)
            go_roundg g2
            case measure => have := HG2.out; omega
            case rel =>
              have := HG2.out
              have hye : ln e = m := by rw [← HV.out]; exact HV2.out
              obtain ⟨E1, E2⟩ := E.out
              have hP : ((2 : Int) ^ (15 - m)) = ((2 ^ (15 - m) : Nat) : Int) := by rw [Int.natCast_pow]; rfl
              have hP2 : 2 ^ (15 - m) ≤ 32768 := by
                have h2 : 2 ^ (15 - m) ≤ 2 ^ 15 := Nat.pow_le_pow_right (by omega) (by omega)
                exact h2
              have hc2 := cntL_yes (ln := ln) hye
              have hc3 := cntL_le ln m (e + 1)
              have hs3 : s1 + 2 ^ (15 - m) = sumTo ln (m - 1) + cntL ln m (e + 1) * 2 ^ (15 - m) := by rw [hc2, Nat.succ_mul, E2, Nat.add_assoc]
              have hs4 := sumTo_le ln (m - 1)
              have hs5 : cntL ln m (e + 1) * 2 ^ (15 - m) ≤ 272 * 32768 := Nat.mul_le_mul (by omega) hP2
              have hF := HF.out
              have hw : wrap64 ((s1 : Int) + wrap64 (2 ^ (15 - m))) = ((s1 + 2 ^ (15 - m) : Nat) : Int) := by
                rw [hP, wrap_sum _ _ (Int.natCast_nonneg _) (Int.ofNat_le.2 hs) (Int.natCast_nonneg _) (Int.ofNat_le.2 hP2), Int.natCast_add]
              have hs6 : s1 + 2 ^ (15 - m) ≤ 133693440 := by
                clear hw hP
                have hs7 : (m - 1) * (272 * 32768) ≤ 14 * (272 * 32768) := Nat.mul_le_mul_right _ (by omega)
                omega
              exact ⟨e + 1, c1 + 1, s1 + 2 ^ (15 - m), by congr 1, by rw [hw], by go_num, by omega, by omega, hs6, ⟨by omega, hs3⟩, ⟨S.out.put e (fun i hi => by rw [codeTo_yes hm1 hm hye, E1])⟩, ⟨below_set SB.out (Nat.le_refl _)⟩⟩
          · have qv : ((v : Int) == (m : Int)) = false := beq_eq_false_iff_ne.2 (by omega)
            have HV2 := Aside0.mk hv
            clear hv
            go_wp2_with (fail)
            go_roundg g2
            case measure => have := HG2.out; omega
            case rel =>
              have := HG2.out
              have hne : ¬ ln e = m := by rw [← HV.out]; exact HV2.out
              exact ⟨e + 1, c1, s1, rfl, rfl, by go_num, by omega, hc, hs, ⟨by rw [cntL_no hne]; exact E.out⟩, ⟨S.out.cong fun i _ => codeTo_no hne i⟩, SB⟩
        · have he2 : e = 272 := by omega
          have HE2 := Aside0.mk he2
          clear he2
          go_wp2
          go_roundg g1
          case measure => have := HG.out; omega
          case rel =>
            have := HG.out
            obtain ⟨E1, E2⟩ := E.out
            rw [HE2.out] at E1 E2
            have ho : ofLen ln m = cntL ln m 272 := by unfold ofLen; rw [if_neg (by omega)]
            obtain ⟨m', hm'⟩ : ∃ m', m = m' + 1 := ⟨m - 1, by omega⟩
            refine ⟨m + 1, c1, s1, rfl, rfl, by go_num, by omega, by omega, hc, hs, ⟨?_, ?_⟩, ⟨S.out.cong fun i hi => ?_⟩, SB⟩
            · show 2 * c1 = 2 * (fstC ln m + ofLen ln m)
              rw [ho, E1]
            · rw [Nat.add_sub_cancel]
              have e3 : sumTo ln m = sumTo ln (m - 1) + ofLen ln m * 2 ^ (15 - m) := by rw [hm']; rfl
              rw [e3, ho, E2]
            · rw [codeTo_next hm1 hi, HE2.out]
    · have hm2 : m = 16 := by omega
      have HM2 := Aside0.mk hm2
      clear hm2
      go_wp2
      go_ret2
      obtain ⟨E1, E2⟩ := E.out
      refine ⟨w.heap.size, ?_, (S.out.cong fun i hi => ?_).up climb, bl SB.out⟩
      · rw [show sumTo ln 15 = s by rw [E2, HM2.out]]; rfl
      · rw [HM2.out]; exact codeTo_end i
end Go.Proofs.YtefhcgnamfnkbaaDoor.Pr
