/- squash.lengthsOf, walked exactly. -/
import Derived.Test.YtefhcgnamfnkbaaDoorSbj
namespace Go.Proofs.YtefhcgnamfnkbaaDoor.Sb
theorem used_mem {ys : List Nat} {i : Nat} {u : Nat × Nat} (h : u ∈ used ys i) : u.2 = ys.count u.1 ∧ u.1 < i := by
  unfold used at h
  obtain ⟨j, hj, rfl⟩ := List.mem_map.1 h
  exact ⟨rfl, by simpa using (List.mem_filter.1 hj).1⟩
theorem used_pos {ys : List Nat} {y i : Nat} (h : y ∈ ys) (hy : y < i) : 0 < (used ys i).length := by
  have hm : (y, ys.count y) ∈ used ys i := List.mem_map.2 ⟨y, List.mem_filter.2 ⟨List.mem_range.2 hy, decide_eq_true (List.count_pos_iff.2 h)⟩, rfl⟩
  exact List.length_pos_of_mem hm
theorem take_min {α : Type} (l : List α) (k : Nat) : l.take (min l.length k) = l.take k := by
  rcases Nat.le_total l.length k with h | h
  · rw [Nat.min_eq_left h, List.take_of_length_le (Nat.le_refl _), List.take_of_length_le h]
  · rw [Nat.min_eq_right h]
theorem flat_next {lv : List (Nat × List Nat)} {d : Nat} {b : Nat × List Nat} (h : lv[d]? = some b) : (lv.take (d + 1)).flatMap (·.2) = (lv.take d).flatMap (·.2) ++ b.2 := by
  rw [List.take_add_one, h, Option.toList_some, List.flatMap_append]
  simp
theorem take_next {α : Type} {l : List α} {f : Nat} {y : α} (h : l[f]? = some y) : l.take (f + 1) = l.take f ++ [y] := by
  rw [List.take_add_one, h]; rfl
theorem lens_many {us : List (Nat × Nat)} (h : ¬ us.length = 1) (j : Nat) : lensOf us j = (((level us 15).take (2 * us.length - 2)).flatMap (·.2)).count j := by
  unfold lensOf
  rw [if_neg h]
end Go.Proofs.YtefhcgnamfnkbaaDoor.Sb
namespace Go.Proofs.YtefhcgnamfnkbaaDoor.Pr
open Go.RowKit Go.Proofs.YtefhcgnamfnkbaaDoorW.PrintWords Go.Proofs.YtefhcgnamfnkbaaDoorW.PrintLast Go.Proofs.YtefhcgnamfnkbaaDoorW.PrintMore
open Go.Proofs.YtefhcgnamfnkbaaDoor.Sb
set_option linter.unusedVariables false
set_option linter.unusedSimpArgs false
variable {w w' w0 : World}
theorem Lx.up' {B N cap M : Nat} {A : Option Addr} {bs : List (Nat × List Nat)} (h : Lx w B N A cap M bs) (k : Below w.heap.size w w') : Lx w' B N A cap M bs := by
  obtain ⟨xs, ho, hx⟩ := h
  exact ⟨xs, own_move ho (fun i hi => k.block i (own_lt ho i hi)), lx_all hx k⟩
set_option maxHeartbeats 16000000 in
set_option maxRecDepth 100000 in
theorem lengths_x (g L cap : Nat) (ts : List Tk) (w : World) (hlen : ts.length = L) (h : TkY w g ts) (hL : 0 < L) (hL2 : L ≤ 1000000) :
    Calls Tryd.prog 30 #[.slice (some ⟨g, 0, none⟩) L cap] w fun r w' => ∃ q, r = .returned (.slice (some ⟨q, 0, none⟩) 272 272) ∧ Ix w' q 272 (fun j => (lensOf (used (syms ts) 272) j : Int)) ∧ Below w.heap.size w w' := by
  have H := Aside0.mk h
  clear h
  obtain ⟨ys, hys⟩ : ∃ ys, ys = syms ts := ⟨_, rfl⟩
  have HYS := Aside0.mk hys
  have HL := Aside0.mk (show ys.length = L by rw [hys, syms_len, hlen])
  have HLT := Aside0.mk hlen
  rw [← hys]
  obtain ⟨us, hus⟩ : ∃ us, us = used ys 272 := ⟨_, rfl⟩
  have HUS := Aside0.mk hus
  rw [← hus]
  clear hys hlen hus
  have hmk : ∀ w, (Instr.makeSlice 63 (.int .i64 272) (.int .i64 272)).run Tryd.prog w = .ok (.slice (some ⟨w.heap.size, 0, none⟩) 272 272) (w.alloc (.cells (madeCells #[.int .i64 0] 272) 3)) := fun w => make_ints 272 (by omega) w
  go_enter Tryd.func30, Tryd.ntmps30
  go_wp2_with (fail)
  go_loopg [22] L (fun kq v22 w' => ∃ (e : Nat), v22 = .int .i64 (e : Int) ∧ e + kq = L ∧ Aside0 (Cx w w' ys e))
  case atStart => exact ⟨0, rfl, by omega, ⟨cx_new w ys⟩⟩
  case round => as_aux_lemma =>
    obtain ⟨e, rfl, hk, S⟩ := hrel
    by_cases he : e < L
    · obtain ⟨⟨y, a, x, b⟩, ht⟩ : ∃ t, ts[e]? = some t := ⟨_, List.getElem?_eq_getElem (by rw [HLT.out]; exact he)⟩
      obtain ⟨k0, k1, k2, k3, y0, y1, x0, x1⟩ := (H.out.below (bl S.out.bw)) e _ ht
      dsimp only at k0 k1 k2 k3 y0 y1 x0 x1
      obtain ⟨yn, rfl⟩ := Int.eq_ofNat_of_zero_le y0
      clear x0 x1
      have hye : ys[e]? = some yn := by rw [HYS.out]; simp [syms, ht]
      have S4 := S.out.up (w' := wr.alloc (.cells #[.int .i64 (yn : Int), .int .i64 a, .int .i64 x, .int .i64 b] 72)) climb
      have cv := S4.box.at_ (j := yn) (by omega)
      have fv := S4.box.free yn
      have hput := S4.put hye
      obtain ⟨cn, hcn⟩ : ∃ cn : Nat, cn = (ys.take e).count yn := ⟨_, rfl⟩
      have hcne : cn ≤ 1000000 := by rw [hcn]; exact Nat.le_trans List.count_le_length (by rw [List.length_take]; omega)
      rw [← hcn] at cv hput
      have HP := Aside0.mk hput
      clear hput S4 hcn hye ht
      have r1 : (yn : Int) < 272 := by omega
      go_wp2_with (fail)
      go_roundg (L - (e + 1))
      case measure => omega
      case rel => exact ⟨e + 1, by go_num, by omega, ⟨HP.out⟩⟩
    · obtain rfl : e = L := by omega
      have HTE := Aside0.mk (show ys.take e = ys from List.take_of_length_le (by rw [HL.out]; exact Nat.le_refl _))
      go_wp2_with (fail)
      go_loopg [6, 36] 272 (fun kq v6 v36 w' => ∃ (i U : Nat) (A : Option Addr) (cap : Nat), v6 = .slice A U cap ∧ v36 = .int .i64 (i : Int) ∧ i + kq = 272 ∧ U ≤ i ∧ Aside0 (Cx w w' ys e) ∧ Aside0 (Ux w w' (w.heap.size + 1) A U cap (used ys i)))
      case atStart => exact ⟨0, 0, none, 0, rfl, rfl, rfl, Nat.le_refl _, S, ⟨⟨rfl, ⟨[], World.ownsRow_nil _ _ _ _, fun i u h => by simp [used] at h⟩, S.out.bw⟩⟩⟩
      case round => as_aux_lemma =>
        clear S
        obtain ⟨i, U, A, cap, rfl, rfl, hk2, hUi, S, SU⟩ := hrel
        by_cases hi : i < 272
        · have cv := S.out.box.at_ hi
          rw [HTE.out] at cv
          have hcl : ys.count i ≤ 1000000 := Nat.le_trans List.count_le_length (by rw [HL.out]; exact hL2)
          obtain ⟨cn, hcn⟩ : ∃ cn : Nat, cn = ys.count i := ⟨_, rfl⟩
          rw [← hcn] at cv hcl
          have HCN := Aside0.mk hcn
          clear hcn
          by_cases hv : 0 < (cn : Int)
          · obtain ⟨i0, hi0, hz0, hz1, hz2⟩ := info_parts pair_info
            obtain ⟨xs, ho, hx⟩ := SU.out.own
            have HO := Aside0.mk ho
            have HX := Aside0.mk hx
            clear ho hx
            have hlt := S.out.lt
            go_wp2_with (first | (at_builtin; refine wpList_append_lies _ rfl _ _ _ (by rfl) (w.heap.size + 1) 134 i0 _ 2 16 Tryd.underlying132 hi0 hz0 hz1 hz2 rfl (by omega) (.slice A U cap) U xs (by rfl) (HO.out.alloc _) ⟨wr.heap.size, 0, none⟩ 1 1 [.int .i64 (i : Int), .int .i64 (cn : Int)] (by rfl) (by rfl) (World.news_of_block (cs := #[.int .i64 (i : Int), .int .i64 (cn : Int)]) (t := 134) (fr := (0, 0)) (heap_alloc_new wr _)) (by simp [Value.oneCell']) (by omega) (by simp only [maxLen]; omega) (by omega) (by simp only [World.size_alloc]; omega) (wr.heap.size + 1) (by simp) ?_; intro gg cap1 w2 hown1 hgrow hat hlt1))
            go_roundg (272 - (i + 1))
            case measure => omega
            case rel =>
              have G := SU.out.stored (Nat.le_succ _) HO.out HX.out climb hgrow hown1 hi
              have hkp := G.2 w.heap.size hlt (by omega)
              have G1 := G.1
              rw [HCN.out, ← used_yes (by rw [← HCN.out]; omega)] at G1
              exact ⟨i + 1, U + 1, _, cap1, rfl, by go_num, by omega, by omega, ⟨S.out.keep hkp G1.bw⟩, ⟨G1⟩⟩
          · go_wp2
            go_roundg (272 - (i + 1))
            case measure => omega
            case rel => exact ⟨i + 1, U, A, cap, rfl, by go_num, by omega, by omega, S, ⟨by rw [used_no (by rw [← HCN.out]; omega)]; exact SU.out⟩⟩
        · have hi2 : i = 272 := by omega
          rw [hi2, ← HUS.out] at SU
          have HUL := Aside0.mk SU.out.len
          have hU : 0 < U := by
            obtain ⟨t0, ht0⟩ : ∃ t, ts[0]? = some t := ⟨_, List.getElem?_eq_getElem (by rw [HLT.out]; exact hL)⟩
            have hg0 := (H.out 0 t0 ht0).2.2.2.2
            have h1 : t0.y.toNat ∈ ys := by rw [HYS.out]; exact List.mem_map.2 ⟨t0, List.mem_of_getElem? ht0, rfl⟩
            have h2 := used_pos (i := 272) h1 (by have := hg0.1; have := hg0.2.1; omega)
            rw [← HUS.out, HUL.out] at h2
            exact h2
          have hU2 : U ≤ 272 := by omega
          have HM1 := Aside0.mk (show ∀ (i : Nat) (u : Nat × Nat), us[i]? = some u → u.2 ≤ 1000000 from fun i u h => by
            have := used_mem (HUS.out ▸ List.mem_of_getElem? h)
            rw [this.1]; exact Nat.le_trans List.count_le_length (by rw [HL.out]; exact hL2))
          clear S hi2
          have O := Ix.made wr 272
          by_cases hU1 : U = 1
          · subst hU1
            obtain ⟨gu, yn, m, rfl, hu0, cy, cm, y1⟩ := (SU.out.up (w' := wr.alloc (.cells (madeCells #[.int .i64 0] 272) 3)) climb).at_ (i := 0) (by omega)
            rw [Nat.zero_mul] at cy
            have co := O.at_ (j := yn) (by omega)
            have fo := O.free yn
            have OO2 := Aside0.mk ((made_set_x wr yn).cong (F' := fun j => ((lensOf us j : Nat) : Int)) fun j _ => used_single hu0 HUL.out j)
            clear O hu0
            have r1 : (yn : Int) < 272 := by omega
            go_wp2
            go_ret
            refine ⟨wr.heap.size, rfl, ?_, ?_⟩
            · exact OO2.out.up climb
            · exact below_alloc SU.out.bw _
          · have hq : ((U : Int) == 1) = false := beq_eq_false_iff_ne.2 (by omega)
            have OO := Aside0.mk O
            clear O
            obtain ⟨g3, hg3⟩ : ∃ g3, g3 = wr.heap.size := ⟨_, rfl⟩
            rw [← hg3] at OO
            have hg0 : w.heap.size ≤ g3 := by rw [hg3]; exact SU.out.bw.size
            have SU1 := Aside0.mk (SU.out.up (w' := wr.alloc (.cells (madeCells #[.int .i64 0] 272) 3)) climb)
            clear SU
            go_wp2_with (fail)
            rw [← hg3]
            clear hg3
            go_loopg [10, 61] 15 (fun kq v10 v61 w' => ∃ (r n : Nat) (A2 : Option Addr) (cap2 : Nat), v10 = .slice A2 n cap2 ∧ v61 = .int .i64 (r : Int) ∧ Aside0 (r + kq = 15) ∧ n ≤ 2 * U ∧ (0 < r → U ≤ n) ∧ n ≤ cap2 ∧ g3 < w'.heap.size ∧ Aside0 ((level us r).length = n) ∧ Aside0 (Rx w' (g3 + 1) A2 (2 ^ r) (level us r)) ∧ Aside0 (Ix w' g3 272 (fun _ => 0)) ∧ Aside0 (Ux w w' (w.heap.size + 1) A U cap us))
            case atStart => exact ⟨0, 0, none, 0, rfl, rfl, ⟨rfl⟩, by omega, fun h => by omega, Nat.le_refl _, OO.out.lt, ⟨rfl⟩, ⟨.inl rfl⟩, OO, SU1⟩
            case round =>
              clear OO SU1
              obtain ⟨r, n, A2, cap2, rfl, rfl, hr, hnU, hUn, hnc, hg3, HN, LB, OO, SU⟩ := hrel
              obtain ⟨W0, hW0⟩ : ∃ W0, W0 = wr := ⟨_, rfl⟩
              rw [← hW0] at LB OO SU hg3 ⊢
              clear hW0
              obtain ⟨lv, hlv⟩ : ∃ lv, lv = level us r := ⟨_, rfl⟩
              rw [← hlv] at HN LB
              have HLV := Aside0.mk hlv
              clear hlv
              by_cases hr15 : r < 15
              · have hrd : decide ((r : Int) < 15) = true := decide_eq_true (by omega)
                go_wp2_with (fail)
                go_loopg [11, 12] (n + 1) (fun kq v11 v12 w' => ∃ (q i : Nat) (A3 : Option Addr) (cap3 : Nat), v11 = .slice A3 q cap3 ∧ v12 = .int .i64 (i : Int) ∧ Aside0 (i = 2 * q ∧ i ≤ n) ∧ i ≤ n + 1 ∧ Aside0 (n + 1 ≤ i + kq) ∧ Aside0 (Lx w' W0.heap.size (g3 + 1) A3 cap3 (2 ^ (r + 1)) ((pairs lv).take q)) ∧ Aside0 (Below W0.heap.size W0 w'))
                case atStart => exact ⟨0, 0, none, 0, rfl, rfl, ⟨rfl, Nat.zero_le _⟩, by omega, ⟨by omega⟩, ⟨Lx.nil _ _ _ _⟩, ⟨climb⟩⟩
                case round =>
                  obtain ⟨q, i, A3, cap3, rfl, rfl, hiq, hin, hk4, LN, SB⟩ := hrel
                  have HQ := Aside0.mk (show ((pairs lv).take q).length = q by rw [List.length_take, pairs_length, HN.out]; have := hiq.out; omega)
                  by_cases hi : (i : Int) + 1 < n
                  · obtain ⟨⟨a1, s1⟩, hb1⟩ : ∃ b, lv[i]? = some b := ⟨_, List.getElem?_eq_getElem (by rw [HN.out]; omega)⟩
                    obtain ⟨⟨a2, s2⟩, hb2⟩ : ∃ b, lv[i + 1]? = some b := ⟨_, List.getElem?_eq_getElem (by rw [HN.out]; omega)⟩
                    obtain ⟨gl, A1, l1, c1, hA, k0, k1, z1, m1, v1⟩ := LB.out.at_ hb1
                    subst hA
                    obtain ⟨gl2, B1, l2, c2, e2, k2, k3, z2, m2, v2⟩ := LB.out.at_ hb2
                    obtain rfl : gl = gl2 := by simpa using e2
                    clear e2
                    dsimp only at k0 k2 z1 z2 v1 v2
                    have HPA := Aside0.mk (show (pairs lv)[q]? = some (a1 + a2, s1 ++ s2) from pairs_at lv q (a1, s1) (a2, s2) (by rw [← hiq.out.1]; exact hb1) (by rw [← hiq.out.1]; exact hb2))
                    clear hb1 hb2
                    have L0 := Aside0.mk (two_cells k0 k1 k2 k3)
                    have Z1 := Aside0.mk z1
                    have Z2 := Aside0.mk z2
                    have HM := Aside0.mk (show (l1 ≤ 2 ^ r ∧ l2 ≤ 2 ^ r) ∧ a1 ≤ 1000000 * 2 ^ r ∧ a2 ≤ 1000000 * 2 ^ r from ⟨⟨m1, m2⟩, v1, v2⟩)
                    have h2r : 2 ^ r ≤ 32768 := by
                      have h2 : 2 ^ r ≤ 2 ^ 15 := Nat.pow_le_pow_right (by omega) (by omega)
                      exact h2
                    have p1 : l1 ≤ 32768 := Nat.le_trans m1 h2r
                    have p2 : l2 ≤ 32768 := Nat.le_trans m2 h2r
                    have HWR := Aside0.mk (show IntKind.i64.wrap ((a1 : Int) + (a2 : Int)) = ((a1 + a2 : Nat) : Int) by
                      have : 1000000 * 2 ^ r ≤ 1000000 * 32768 := Nat.mul_le_mul_left _ h2r
                      rw [IntKind.wrap_i64]; omega)
                    clear z1 z2 m1 m2 v1 v2 h2r
                    obtain ⟨xs, ho, hx⟩ := LN.out.parts HQ.out
                    have HO := Aside0.mk ho
                    have HX := Aside0.mk hx
                    clear ho hx
                    obtain ⟨i0, hi0, hz0, hz1, hz2⟩ := info_parts bundle_info
                    have r1 : (i : Int) < n := by omega
                    have r2 : IntKind.i64.wrap ((i : Int) + 1) = (i : Int) + 1 := by rw [IntKind.wrap_i64]; omega
                    have r3 : (0 : Int) ≤ i := by omega
                    have hsz := SB.out.size
                    have hlq : q ≤ 1000 := by have := hiq.out; omega
                    have r4 : (i : Int) + 1 < n := hi
                    have r5 : (0 : Int) ≤ (i : Int) + 1 := by omega
                    go_upto_region 25 with (fail)
                    go_region_held3 (fun w' => w'.cell? ⟨gl, i * 2, none⟩ = some (.int .i64 (a1 : Int)) ∧ w'.cell? ⟨gl, i * 2 + 1, none⟩ = some (.slice A1 l1 c1) ∧ w'.cell? ⟨gl, (i + 1) * 2, none⟩ = some (.int .i64 (a2 : Int)) ∧ w'.cell? ⟨gl, (i + 1) * 2 + 1, none⟩ = some (.slice B1 l2 c2)) (first | exact L0.out _ SB3.out | exact L0.out _ (bl SB3.out) | exact L0.out _ (bl SB2.out) | exact L0.out _ (bl SB.out)) (first
                      | (go_at_call 73; (with_reducible refine (concat_x wr.heap.size (g3 + 1) (g3 + 1) A1 B1 s1 s2 l1 c1 l2 c2 _ ((blk_cell (blk_below (blk_new wr (.cells #[.slice A1 l1 c1, .slice B1 l2 c2] 63)) climb) 0).trans rfl) ((blk_cell (blk_below (blk_new wr (.cells #[.slice A1 l1 c1, .slice B1 l2 c2] 63)) climb) 1).trans rfl) ((Z1.out.t3 (T3.ofBelow SB.out)).t3 (T3.ofBelow climb)) ((Z2.out.t3 (T3.ofBelow SB.out)).t3 (T3.ofBelow climb)) (by omega) (by omega)).mono ?_); rintro _ w2 ⟨A9, c9, rfl, hz9, hb9⟩; have HB := Aside0.mk (show Below wr.heap.size wr w2 from below_step climb hb9); have SB2 := Aside0.mk (below_step SB.out HB.out); have Z9 := Aside0.mk hz9; clear hb9 hz9)
                      | (refine wp_append_lies _ _ _ _ rfl W0.heap.size 137 i0 _ 2 32 Tryd.underlying135 hi0 hz0 hz1 hz2 rfl (by omega) (.slice A3 q cap3) q xs (by rfl) (own_move HO.out (fun k hk => (bl HB.out).block k (own_lt HO.out k hk))) ⟨w2.heap.size, 0, none⟩ 1 1 [.int .i64 (IntKind.i64.wrap ((a1 : Int) + (a2 : Int))), .slice A9 (l1 + l2) c9] (by rfl) (by rfl) (World.news_of_block (cs := #[.int .i64 (IntKind.i64.wrap ((a1 : Int) + (a2 : Int))), .slice A9 (l1 + l2) c9]) (t := 137) (fr := (0, 0)) (heap_alloc_new w2 _)) (by simp [Value.oneCell']) (by omega) (by simp only [maxLen]; omega) (by omega) (by have := SB2.out.size; simp only [World.size_alloc]; omega) (w2.heap.size + 1) (by simp) ?_; intro gg cap1 w3 hown1 hgrow hat hlt1; have SB3 := Aside0.mk (show Below W0.heap.size W0 w3 from below_grown SB.out (bl HB.out) hgrow HO.out); have HGR := Aside0.mk hgrow; clear hgrow hat hlt1))
                    go_wp2
                    go_roundg (n + 1 - (i + 2))
                    case measure => have := hk4.out; omega
                    case rel =>
                      have h1 := hiq.out
                      have h2 := hk4.out
                      obtain ⟨⟨h3, h3'⟩, h4, h4'⟩ := HM.out
                      have hown2 := hown1
                      rw [HWR.out] at hown2
                      have HO2 := own_move HO.out (fun k hk => HB.out.block k (own_lt HO.out k hk))
                      have G := Lx.stored' (b := (a1 + a2, s1 ++ s2)) HQ.out HO2 (lx_all HX.out HB.out) climb HGR.out hown2 (Z9.out.low (by refine Nat.le_trans (show g3 + 1 ≤ wr.heap.size by have := SB.out.size; omega) ?_; exact Below.size (w := wr) climb)) (by rw [Nat.pow_succ]; omega) (by show a1 + a2 ≤ _; rw [Nat.pow_succ]; omega)
                      rw [← take_next HPA.out] at G
                      exact ⟨q + 1, i + 2, _, cap1, rfl, by go_num, ⟨by omega, by omega⟩, by omega, ⟨by omega⟩, ⟨G.up' climb⟩, ⟨bl SB3.out⟩⟩
                  · have hqn : 2 * q = n ∨ 2 * q = n + 1 ∨ 2 * q = n - 1 := by have := hiq.out; omega
                    have hq2 : q ≤ U := by have := hiq.out; omega
                    have hq3 : 2 * q ≤ n + 1 := by have := hiq.out; omega
                    have hq4 : n ≤ 2 * q + 1 := by have := hiq.out; omega
                    have HPL := Aside0.mk (show (pairs lv).length = q by rw [pairs_length, HN.out]; have := hiq.out; omega)
                    have LN0 := Aside0.mk (show Lx wr W0.heap.size (g3 + 1) A3 cap3 (2 ^ (r + 1)) (pairs lv ++ (leaves us).take 0) by
                      have := LN.out
                      rw [List.take_of_length_le (by rw [HPL.out]; exact Nat.le_refl _)] at this
                      rw [List.take_zero, List.append_nil]; exact this)
                    have hwi : wrap64 ((i : Int) + 1) = (i : Int) + 1 := by unfold wrap64; omega
                    clear hqn hiq hk4 hin LN HQ
                    go_wp2_with (fail)
                    clear hi hwi
                    go_loopg [11, 101] U (fun kq v11 v101 w' => ∃ (i : Nat) (A3 : Option Addr) (cap3 : Nat), v11 = .slice A3 (q + i) cap3 ∧ v101 = .int .i64 (i : Int) ∧ Aside0 (i + kq = U) ∧ Aside0 (Lx w' W0.heap.size (g3 + 1) A3 cap3 (2 ^ (r + 1)) (pairs lv ++ (leaves us).take i)) ∧ Aside0 (Below W0.heap.size W0 w'))
                    case atStart => exact ⟨0, A3, cap3, rfl, rfl, ⟨by omega⟩, LN0, SB⟩
                    case round =>
                      clear LN0 SB
                      obtain ⟨i, A3, cap3, rfl, rfl, hk4, LN, SB⟩ := hrel
                      have HQ := Aside0.mk (show (pairs lv ++ (leaves us).take i).length = q + i by rw [List.length_append, HPL.out, List.length_take]; simp only [leaves, List.length_map]; rw [HUL.out]; have := hk4.out; omega)
                      by_cases hi : i < U
                      · obtain ⟨gu, y, m, hA, hu, cy, cm, y1⟩ := (SU.out.up SB.out).at_ hi
                        subst hA
                        have hm9 : m ≤ 1000000 := HM1.out i (y, m) hu
                        have HLF := Aside0.mk (show (leaves us)[i]? = some (m, [y]) by simp [leaves, hu])
                        clear hu
                        have gul : gu < wr.heap.size := World.block_lt_of_cell? wr _ cy
                        obtain ⟨xs, ho, hx⟩ := LN.out.parts HQ.out
                        have HO := Aside0.mk ho
                        have HX := Aside0.mk hx
                        clear ho hx
                        obtain ⟨i0, hi0, hz0, hz1, hz2⟩ := info_parts bundle_info
                        have hsz := SB.out.size
                        go_wp2_with (first | (at_builtin; refine wpList_append_lies _ rfl _ _ _ (by rfl) W0.heap.size 137 i0 _ 2 32 Tryd.underlying135 hi0 hz0 hz1 hz2 rfl (by omega) (.slice A3 (q + i) cap3) (q + i) xs (by rfl) (own_move HO.out (fun k hk => (climb : Below wr.heap.size wr _).block k (own_lt HO.out k hk))) ⟨wr.heap.size + 1 + 1, 0, none⟩ 1 1 [.int .i64 (m : Int), .slice (some ⟨wr.heap.size + 1, 0, none⟩) 1 1] (by rfl) (by rfl) (World.news_of_block (cs := #[.int .i64 (m : Int), .slice (some ⟨wr.heap.size + 1, 0, none⟩) 1 1]) (t := 137) (fr := (0, 0)) (new_at3 _ _ (by simp))) (by simp [Value.oneCell']) (by omega) (by simp only [maxLen]; omega) (by omega) (by simp only [World.size_alloc]; omega) (wr.heap.size + 1 + 1 + 1) (by simp) ?_; intro gg cap1 w3 hown1 hgrow hat hlt1))
                        have hb9 : Below wr.heap.size wr ((((wr.alloc (.cells #[.int .i64 (y : Int), .int .i64 (m : Int)] 134)).alloc (.cells #[.int .i64 (y : Int)] 3)).alloc (.cells #[.int .i64 (m : Int), .slice (some ⟨wr.heap.size + 1, 0, none⟩) 1 1] 137))) := climb
                        have SB9 := below_grown SB.out hb9 hgrow HO.out
                        have HGR := Aside0.mk hgrow
                        have SB8 := Aside0.mk SB9
                        clear hgrow hat hlt1 SB9
                        go_roundg (U - (i + 1))
                        case measure => have := hk4.out; omega
                        case rel =>
                          have h2 := hk4.out
                          have hy : Sx (wr.alloc (.cells #[.int .i64 (y : Int), .int .i64 (m : Int)] 134) |>.alloc (.cells #[.int .i64 (y : Int)] 3)) (g3 + 1) (some ⟨wr.heap.size + 1, 0, none⟩) 1 1 [y] := (sx_one _ y (by simp) y1).low (by simp only [World.size_alloc]; omega)
                          have HO2 := own_move HO.out (fun k hk => (show Below wr.heap.size wr (wr.alloc (.cells #[.int .i64 (y : Int), .int .i64 (m : Int)] 134) |>.alloc (.cells #[.int .i64 (y : Int)] 3)) from climb).block k (own_lt HO.out k hk))
                          have G := Lx.stored' (b := (m, [y])) HQ.out HO2 (lx_all HX.out climb) climb HGR.out hown1 hy Nat.one_le_two_pow (by show m ≤ 1000000 * 2 ^ (r + 1); have := Nat.mul_le_mul_left 1000000 (Nat.one_le_two_pow (n := r + 1)); omega)
                          rw [List.append_assoc, ← take_next HLF.out] at G
                          exact ⟨i + 1, _, cap1, rfl, by go_num, ⟨by omega⟩, ⟨G⟩, SB8⟩
                      · obtain rfl : i = U := by have := hk4.out; omega
                        have hcp : q + i ≤ cap3 := by have := LN.out.cap_; rw [HQ.out] at this; exact this
                        have hM9 : 2 ^ (r + 1) ≤ 1000000000 := by
                          have h2 : 2 ^ (r + 1) ≤ 2 ^ 15 := Nat.pow_le_pow_right (by omega) (by omega)
                          exact Nat.le_trans h2 (by decide)
                        have HSO := Aside0.mk (show sortB (pairs lv ++ (leaves us).take i) = level us (r + 1) by
                          rw [List.take_of_length_le (by simp only [leaves, List.length_map]; rw [HUL.out]; exact Nat.le_refl _), HLV.out]; rfl)
                        have HM9 := Aside0.mk hM9
                        clear hM9
                        go_wp2_with (first | (go_at_call 74; (with_reducible refine (sort_xn _ (LN.out.up' climb) HQ.out (by omega) (by omega) HM9.out).mono ?_); rintro _ w1 ⟨rfl, gn, csn, e9, hgB, hgt, A', hrx⟩; have RX := Aside0.mk hrx; have GT := Aside0.mk hgt; have A1 := Aside0.mk A'; clear hrx hgt A'))
                        go_roundg (15 - (r + 1))
                        case measure => have := hr.out; omega
                        case rel =>
                          have h2 := hr.out
                          have hbl := Ap.then (bl SB.out) A1.out hgB (bl SB.out).size
                          have hrx := RX.out
                          rw [HSO.out, e9] at hrx
                          have hll : (level us (r + 1)).length = q + i := by rw [← HSO.out, sortB_length, HQ.out]
                          exact ⟨r + 1, q + i, _, cap3, rfl, by go_num, ⟨by omega⟩, by omega, fun _ => by omega, hcp, (Nat.lt_of_lt_of_le hg3 hbl.size), ⟨hll⟩, ⟨hrx⟩, ⟨OO.out.up hbl⟩, ⟨SU.out.up hbl⟩⟩
              · obtain rfl : r = 15 := by have := hr.out; omega
                have hn1 := hUn (by omega)
                have hU3 : 2 ≤ U := by omega
                clear hUn hr hr15
                obtain ⟨m, hm⟩ : ∃ m : Nat, (m : Int) = min (n : Int) (2 * (U : Int) - 2) := ⟨(min (n : Int) (2 * (U : Int) - 2)).toNat, by omega⟩
                have hmn : m ≤ n := by omega
                have hm5 : m ≤ 542 := by omega
                have HMM := Aside0.mk (show lv.take m = lv.take (2 * us.length - 2) by rw [← take_min lv (2 * us.length - 2), HN.out, HUL.out]; congr 1; omega)
                have O0 : Aside0 (Ox w W0 g3 A2 lv ((lv.take 0).flatMap (·.2))) := ⟨⟨LB.out, OO.out.cong fun i _ => by simp, SU.out.bw, hg0⟩⟩
                have Z0 : Aside0 (((lv.take 0).flatMap (·.2)).length ≤ 0 * 32768) := ⟨by simp⟩
                clear LB OO SU
                go_wp2_with (fail)
                rw [← hm, Int.toNat_natCast, Int.max_eq_left (show (0 : Int) ≤ (m : Int) by omega)]
                clear hm
                go_loopg [129] m (fun kq v129 w' => ∃ (d : Nat), v129 = .int .i64 (d : Int) ∧ Aside0 (d + kq = m) ∧ Aside0 (Ox w w' g3 A2 lv ((lv.take d).flatMap (·.2))) ∧ Aside0 (((lv.take d).flatMap (·.2)).length ≤ d * 32768))
                case atStart => exact ⟨0, rfl, ⟨by omega⟩, O0, Z0⟩
                case round =>
                  clear O0 Z0
                  obtain ⟨d, rfl, hd, S, HZ⟩ := hrel
                  by_cases hdm : d < m
                  · obtain ⟨⟨a1, s1⟩, hb1⟩ : ∃ b, lv[d]? = some b := ⟨_, List.getElem?_eq_getElem (by rw [HN.out]; omega)⟩
                    obtain ⟨gl, A1, l1, c1, hA, k0, k1, z1, m1, v1⟩ := S.out.lv.at_ hb1
                    subst hA
                    dsimp only at k0 z1 v1
                    have HB1 := Aside0.mk hb1
                    clear hb1 v1
                    have m2 : l1 ≤ 32768 := m1
                    have HM := Aside0.mk m2
                    have Z := Aside0.mk z1
                    have HS1 := Aside0.mk (show s1.length = l1 from z1.choose_spec.2.1)
                    have hdn : (d : Int) < m := by omega
                    obtain ⟨zs, hzs⟩ : ∃ zs, zs = (lv.take d).flatMap (·.2) := ⟨_, rfl⟩
                    rw [← hzs] at S HZ
                    have HZS := Aside0.mk hzs
                    clear m1 m2 z1 hzs
                    go_wp2_with (fail)
                    go_loopg [136] l1 (fun kq v136 w' => ∃ (f : Nat), v136 = .int .i64 (f : Int) ∧ Aside0 (f + kq = l1) ∧ Aside0 (Ox w w' g3 (some ⟨gl, 0, none⟩) lv (zs ++ s1.take f)) ∧ Aside0 (Sx w' (g3 + 1) A1 l1 c1 s1))
                    case atStart => exact ⟨0, rfl, ⟨by omega⟩, ⟨by rw [List.take_zero, List.append_nil]; exact S.out.up climb⟩, ⟨Z.out.t3 (T3.ofBelow climb)⟩⟩
                    case round =>
                      clear S Z k0 k1
                      obtain ⟨f, rfl, hf, S, Z⟩ := hrel
                      by_cases hfl : f < l1
                      · obtain ⟨ad, yn, hA, cy, y1, hyf⟩ := Z.out.at_ hfl
                        subst hA
                        have cv := S.out.out.at_ (j := yn) (by omega)
                        have fv := S.out.out.free yn
                        have hput := S.out.put yn
                        obtain ⟨v, hv0⟩ : ∃ v : Nat, v = (zs ++ s1.take f).count yn := ⟨_, rfl⟩
                        have hv : v ≤ 30000000 := by
                          rw [hv0]
                          refine Nat.le_trans List.count_le_length ?_
                          rw [List.length_append, List.length_take]
                          have := HZ.out
                          have := HM.out
                          have : d * 32768 ≤ 542 * 32768 := Nat.mul_le_mul_right _ (by omega)
                          omega
                        rw [← hv0] at cv hput
                        rw [List.append_assoc, ← take_next hyf] at hput
                        have PV := Aside0.mk hput
                        clear hput hv0 hyf
                        go_wp2
                        go_roundg (l1 - (f + 1))
                        case measure => have := hf.out; omega
                        case rel =>
                          have h1 := hf.out
                          have h2 := HM.out
                          exact ⟨f + 1, by first | go_num | (congr 1; unfold wrap64; omega), ⟨by omega⟩, ⟨PV.out⟩, ⟨Z.out.put (a := ⟨g3, yn, none⟩) (Nat.lt_succ_self g3) _⟩⟩
                      · go_wp2
                        go_roundg (m - (d + 1))
                        case measure => have := hd.out; omega
                        case rel =>
                          have h1 := hf.out
                          have h2 := HM.out
                          have h3 := hd.out
                          have h4 := HZ.out
                          have h5 := HS1.out
                          have hs := S.out
                          rw [List.take_of_length_le (by omega), HZS.out, ← flat_next HB1.out] at hs
                          refine ⟨d + 1, by go_num, ⟨by omega⟩, ⟨hs⟩, ⟨?_⟩⟩
                          rw [flat_next HB1.out, List.length_append, ← HZS.out]
                          show zs.length + s1.length ≤ _
                          omega
                  · go_wp2
                    go_ret
                    have hd2 : d = m := by have := hd.out; omega
                    refine ⟨g3, rfl, ((S.out.up climb).out).cong fun j _ => ?_, bl (S.out.up climb).bw⟩
                    rw [lens_many (by rw [HUL.out]; exact hU1), ← HLV.out, ← HMM.out, hd2]
end Go.Proofs.YtefhcgnamfnkbaaDoor.Pr
