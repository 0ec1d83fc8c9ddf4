/- slices.rotateCmpFunc, symMergeCmpFunc at squash.bundle, walked by hand. -/
import Derived.Test.YtefhcgnamfnkbaaDoorSqr
namespace Go.Proofs.YtefhcgnamfnkbaaDoor.Pr
open Go.RowKit Go.Proofs.YtefhcgnamfnkbaaDoorW.PrintWords Go.Proofs.YtefhcgnamfnkbaaDoorW.PrintLast Go.Proofs.YtefhcgnamfnkbaaDoorW.PrintMore
set_option linter.unusedVariables false
set_option linter.unusedSimpArgs false
variable {w w' : World} {g n : Nat} {Q : Option Addr → Nat → Nat → Prop}
set_option maxHeartbeats 16000000 in
set_option maxRecDepth 100000 in
theorem sym_gen (cap : Nat) (hn : n ≤ 1000000) (d : Nat) (ih' : ∀ (a m b : Nat) (w : World), Bv w g n Q → a < m → m < b → b ≤ n → b - a ≤ d → Calls Tryd.prog 132 #[.slice (some ⟨g, 0, none⟩) n cap, .int .i64 (a : Int), .int .i64 (m : Int), .int .i64 (b : Int), .func (.func 75) #[] #[]] w fun r w' => r = .returned (.tuple #[]) ∧ Bv w' g n Q ∧ Ap w.heap.size g w w') (a m b : Nat) (w : World) (h : Bv w g n Q) (ham : a < m) (hmb : m < b) (hb : b ≤ n) (c1 : ¬ (m : Int) - a = 1) (c2 : ¬ (b : Int) - m = 1) (hd : b - a ≤ d + 1) :
    Calls Tryd.prog 132 #[.slice (some ⟨g, 0, none⟩) n cap, .int .i64 (a : Int), .int .i64 (m : Int), .int .i64 (b : Int), .func (.func 75) #[] #[]] w fun r w' => r = .returned (.tuple #[]) ∧ Bv w' g n Q ∧ Ap w.heap.size g w w' := by
  have cq1 : ((m : Int) - a == 1) = false := beq_eq_false_iff_ne.2 c1
  have cq2 : ((b : Int) - m == 1) = false := beq_eq_false_iff_ne.2 c2
  have H := Aside0.mk h
  clear h
  have ih := Aside0.mk ih'
  clear ih'
  go_enter Tryd.func132, Tryd.ntmps132
  go_upto_region 25 with (fail)
  obtain ⟨mid, em⟩ : ∃ mid : Nat, ((a : Int) + b) / 2 = (mid : Int) := ⟨(a + b) / 2, by omega⟩
  rw [em]
  have hm1 : 2 * mid ≤ a + b := by omega
  have hm2 : a + b ≤ 2 * mid + 1 := by omega
  clear em
  go_upto_if 140 with (fail)
  go_cut [20, 21] (fun v20 v21 wx => ∃ (s r : Nat), v20 = .int .i64 (s : Int) ∧ v21 = .int .i64 (r : Int) ∧ a ≤ s ∧ mid + m ≤ s + b ∧ s ≤ r ∧ r ≤ m ∧ Aside0 (Bv wx g n Q) ∧ Aside0 (Ap w.heap.size g w wx))
  case first => as_aux_lemma =>
    by_cases hmm : mid < m
    · go_wp2
      go_meet
      case rel => exact ⟨mid + m - b, mid, by go_num, rfl, by omega, by omega, by omega, by omega, ⟨H.out.up climb⟩, ⟨Ap.ofBelow climb (Nat.le_refl _)⟩⟩
    · go_wp2
      go_meet
      case rel => exact ⟨a, m, rfl, rfl, by omega, by omega, by omega, by omega, ⟨H.out.up climb⟩, ⟨Ap.ofBelow climb (Nat.le_refl _)⟩⟩
  case rest => as_aux_lemma =>
    clear H
    obtain ⟨s, r, rfl, rfl, has, hsb, hsr, hrm, S, SA⟩ := hcut
    go_wp2_with (fail)
    obtain ⟨pp, ep⟩ : ∃ pp : Nat, (mid : Int) + m - 1 = (pp : Int) := ⟨mid + m - 1, by omega⟩
    rw [ep]
    have hp1 : mid + m = pp + 1 := by omega
    clear ep
    go_loopg [20, 21] (r - s) (fun kq v20 v21 w' => ∃ (s r : Nat), v20 = .int .i64 (s : Int) ∧ v21 = .int .i64 (r : Int) ∧ a ≤ s ∧ mid + m ≤ s + b ∧ s ≤ r ∧ r ≤ m ∧ r ≤ s + kq ∧ Aside0 (Bv w' g n Q) ∧ Aside0 (Ap w.heap.size g w w'))
    case atStart => exact ⟨s, r, rfl, rfl, by omega, by omega, by omega, by omega, by omega, ⟨S.out.up climb⟩, ⟨SA.out.climb climb⟩⟩
    case round => as_aux_lemma =>
      clear S SA has hsb hsr hrm
      obtain ⟨i, j, rfl, rfl, has, hsb, hsr, hrm, hk, S, SA⟩ := hrel
      by_cases hlt : i < j
      · go_upto_region 35 with (fail)
        obtain ⟨hh, eh⟩ : ∃ hh : Nat, ((i : Int) + j) / 2 = (hh : Int) := ⟨(i + j) / 2, by omega⟩
        rw [eh]
        have hh1 : i ≤ hh := by omega
        have hh2 : hh < j := by omega
        clear eh
        have r1 : (hh : Int) < n := by omega
        have r3 : (0 : Int) ≤ (pp : Int) - hh := by omega
        have r4 : (pp : Int) - hh < n := by omega
        have r5 : ((pp : Int) - hh).toNat = pp - hh := by omega
        have r6 : IntKind.i64.wrap ((pp : Int) - hh) = (pp : Int) - hh := by rw [IntKind.wrap_i64]; omega
        have r7 : (hh : Int) ≤ pp := by omega
        obtain ⟨x1, A1, l1, c1', k0, k1, _⟩ := S.out.at_ (i := (pp - hh)) (by omega)
        obtain ⟨x2, A2, l2, c2', k2, k3, _⟩ := S.out.at_ (i := hh) (by omega)
        have L0 := Aside0.mk (two_cells k0 k1 k2 k3)
        go_region_held3 (fun w' => w'.cell? ⟨g, (pp - hh) * 2, none⟩ = some (.int .i64 x1) ∧ w'.cell? ⟨g, (pp - hh) * 2 + 1, none⟩ = some (.slice A1 l1 c1') ∧ w'.cell? ⟨g, hh * 2, none⟩ = some (.int .i64 x2) ∧ w'.cell? ⟨g, hh * 2 + 1, none⟩ = some (.slice A2 l2 c2')) (first | exact L0.out _ HB.out | exact L0.out _ (bl HB.out) | exact L0.out _ climb) (first | (go_at_call 75; (with_reducible refine (cmp_calls x1 x2 A1 A2 l1 c1' l2 c2' _).mono ?_); rintro _ w1 ⟨rfl, hb1⟩; have HB := Aside0.mk (show Below wr.heap.size wr w1 from below_step climb hb1); clear hb1))
        have S_ := Aside0.mk (S.out.up HB.out)
        have SA_ := Aside0.mk (SA.out.climb HB.out)
        clear S SA k0 k1 k2 k3 L0 HB
        have S := S_
        have SA := SA_
        clear S_ SA_
        by_cases hz : wrap64 (x1 - x2) < 0
        · have hz2 : decide (wrap64 (x1 - x2) < 0) = true := decide_eq_true hz
          clear hz
          simp only [hz2, Bool.not_true]
          go_wp2
          go_roundg (hh - i)
          case measure => omega
          case rel => exact ⟨i, hh, rfl, rfl, by omega, by omega, by omega, by omega, by omega, ⟨S.out.up climb⟩, ⟨SA.out.climb climb⟩⟩
        · have hz2 : decide (wrap64 (x1 - x2) < 0) = false := decide_eq_false hz
          clear hz
          simp only [hz2, Bool.not_false]
          go_wp2
          go_roundg (j - (hh + 1))
          case measure => omega
          case rel => exact ⟨hh + 1, j, by go_num, rfl, by omega, by omega, by omega, by omega, by omega, ⟨S.out.up climb⟩, ⟨SA.out.climb climb⟩⟩
      · go_upto_region 39 with (fail)
        obtain ⟨ee, en⟩ : ∃ ee : Nat, (mid : Int) + m - i = (ee : Int) := ⟨mid + m - i, by omega⟩
        rw [en]
        have he1 : mid + m = ee + i := by omega
        clear en
        have S_ := Aside0.mk (S.out.up (w' := _) climb)
        have SA_ := Aside0.mk (SA.out.climb (w2 := _) climb)
        clear S SA
        have S := S_
        have SA := SA_
        clear S_ SA_ hk hlt hsr
        go_cut [185] (fun vc wx => ∃ (tt : Bool), vc = .bool tt ∧ (tt = true → i < m ∧ m < ee) ∧ Aside0 (Bv wx g n Q) ∧ Aside0 (Ap w.heap.size g w wx))
        case first => as_aux_lemma =>
          by_cases q1 : i < m
          · by_cases q2 : m < ee
            · go_wp2
              go_meet
              case rel => exact ⟨_, rfl, fun _ => ⟨q1, q2⟩, ⟨S.out.up climb⟩, ⟨SA.out.climb climb⟩⟩
            · go_wp2
              go_meet
              case rel => exact ⟨_, rfl, fun h => by simp at h, ⟨S.out.up climb⟩, ⟨SA.out.climb climb⟩⟩
          · go_wp2
            go_meet
            case rel => exact ⟨_, rfl, fun h => by simp at h, ⟨S.out.up climb⟩, ⟨SA.out.climb climb⟩⟩
        case rest => as_aux_lemma =>
          clear S SA
          obtain ⟨tt, rfl, htt, S, SA⟩ := hcut
          go_upto_if 185 with (fail)
          go_cut [] (fun wx => Aside0 (Bv wx g n Q) ∧ Aside0 (Ap w.heap.size g w wx))
          case first => as_aux_lemma =>
            cases tt
            · go_wp2
              go_meet
              case rel => exact ⟨⟨S.out.up climb⟩, ⟨SA.out.climb climb⟩⟩
            · have htt := htt rfl
              go_wp2_with (first | (go_at_call 148; (with_reducible refine (rotate_calls _ (i : Int) (m : Int) (ee : Int) cap _ (S.out.up climb) (by omega) (by omega) (by omega) (by omega) hn).mono ?_); rintro _ w1 ⟨rfl, S', A'⟩; have S1 := Aside0.mk S'; have SA1 := Aside0.mk ((SA.out.climb climb).seq A'); clear S' A'))
              go_meet
              case rel => exact ⟨⟨S1.out.up climb⟩, ⟨SA1.out.climb climb⟩⟩
          case rest => as_aux_lemma =>
            clear S SA htt tt
            obtain ⟨S, SA⟩ := hcut
            go_upto_region 41 with (fail)
            go_cut [199] (fun vc wx => ∃ (tt : Bool), vc = .bool tt ∧ (tt = true → a < i ∧ i < mid) ∧ Aside0 (Bv wx g n Q) ∧ Aside0 (Ap w.heap.size g w wx))
            case first => as_aux_lemma =>
              by_cases q1 : a < i
              · by_cases q2 : i < mid
                · go_wp2
                  go_meet
                  case rel => exact ⟨_, rfl, fun _ => ⟨q1, q2⟩, ⟨S.out.up climb⟩, ⟨SA.out.climb climb⟩⟩
                · go_wp2
                  go_meet
                  case rel => exact ⟨_, rfl, fun h => by simp at h, ⟨S.out.up climb⟩, ⟨SA.out.climb climb⟩⟩
              · go_wp2
                go_meet
                case rel => exact ⟨_, rfl, fun h => by simp at h, ⟨S.out.up climb⟩, ⟨SA.out.climb climb⟩⟩
            case rest => as_aux_lemma =>
              clear S SA
              obtain ⟨tt, rfl, htt, S, SA⟩ := hcut
              go_upto_if 199 with (fail)
              go_cut [] (fun wx => Aside0 (Bv wx g n Q) ∧ Aside0 (Ap w.heap.size g w wx))
              case first => as_aux_lemma =>
                cases tt
                · go_wp2
                  go_meet
                  case rel => exact ⟨⟨S.out.up climb⟩, ⟨SA.out.climb climb⟩⟩
                · have htt := htt rfl
                  go_wp2_with (first | (go_at_call 132; (with_reducible refine (ih.out a i mid _ (S.out.up climb) (by omega) (by omega) (by omega) (by omega)).mono ?_); rintro _ w1 ⟨rfl, S', A'⟩; have S1 := Aside0.mk S'; have SA1 := Aside0.mk ((SA.out.climb climb).seq A'); clear S' A'))
                  go_meet
                  case rel => exact ⟨⟨S1.out.up climb⟩, ⟨SA1.out.climb climb⟩⟩
              case rest => as_aux_lemma =>
                clear S SA htt tt
                obtain ⟨S, SA⟩ := hcut
                go_upto_region 43 with (fail)
                go_cut [213] (fun vc wx => ∃ (tt : Bool), vc = .bool tt ∧ (tt = true → mid < ee ∧ ee < b) ∧ Aside0 (Bv wx g n Q) ∧ Aside0 (Ap w.heap.size g w wx))
                case first => as_aux_lemma =>
                  by_cases q1 : mid < ee
                  · by_cases q2 : ee < b
                    · go_wp2
                      go_meet
                      case rel => exact ⟨_, rfl, fun _ => ⟨q1, q2⟩, ⟨S.out.up climb⟩, ⟨SA.out.climb climb⟩⟩
                    · go_wp2
                      go_meet
                      case rel => exact ⟨_, rfl, fun h => by simp at h, ⟨S.out.up climb⟩, ⟨SA.out.climb climb⟩⟩
                  · go_wp2
                    go_meet
                    case rel => exact ⟨_, rfl, fun h => by simp at h, ⟨S.out.up climb⟩, ⟨SA.out.climb climb⟩⟩
                case rest => as_aux_lemma =>
                  clear S SA
                  obtain ⟨tt, rfl, htt, S, SA⟩ := hcut
                  go_upto_if 213 with (fail)
                  cases tt
                  · go_wp2
                    go_end0
                    exact ⟨rfl, S.out.up climb, SA.out.climb climb⟩
                  · have htt := htt rfl
                    go_wp2_with (first | (go_at_call 132; (with_reducible refine (ih.out mid ee b _ (S.out.up climb) (by omega) (by omega) (by omega) (by omega)).mono ?_); rintro _ w1 ⟨rfl, S', A'⟩; have S1 := Aside0.mk S'; have SA1 := Aside0.mk ((SA.out.climb climb).seq A'); clear S' A'))
                    go_end0
                    exact ⟨rfl, S1.out.up climb, SA1.out.climb climb⟩
end Go.Proofs.YtefhcgnamfnkbaaDoor.Pr
