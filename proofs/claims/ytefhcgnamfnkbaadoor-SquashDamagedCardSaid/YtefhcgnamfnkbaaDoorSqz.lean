/- squash.Pack, walked by hand. -/
import Derived.Test.YtefhcgnamfnkbaaDoorSqw
namespace Go.Proofs.YtefhcgnamfnkbaaDoor.Pr
open Go.RowKit Go.Proofs.YtefhcgnamfnkbaaDoorW.PrintWords Go.Proofs.YtefhcgnamfnkbaaDoorW.PrintLast Go.Proofs.YtefhcgnamfnkbaaDoorW.PrintMore
set_option linter.unusedVariables false
set_option linter.unusedSimpArgs false
set_option maxHeartbeats 16000000 in
set_option maxRecDepth 2000000 in
theorem pack_calls (s : ByteArray) (w : World) (hs : s.size ≤ 600) (hb : Gb w) (hg : 1 ≤ w.heap.size) :
    Calls Tryd.prog 10 #[.string s] w fun r w' => ∃ o : ByteArray, r = .returned (.string o) ∧ 5 ≤ o.size ∧ o.size ≤ 605 ∧ Below w.heap.size w w' := by
  have HG := Aside0.mk hb
  clear hb
  go_enter Tryd.func10, Tryd.ntmps10
  go_upto_region 3 with (fail)
  obtain ⟨a, ha⟩ : ∃ a : Int, a = (s.size : Int) / 16777216 := ⟨_, rfl⟩
  obtain ⟨b, hb⟩ : ∃ a : Int, a = (s.size : Int) / 65536 := ⟨_, rfl⟩
  obtain ⟨c, hc⟩ : ∃ a : Int, a = (s.size : Int) / 256 := ⟨_, rfl⟩
  obtain ⟨d, hd⟩ : ∃ a : Int, a = (s.size : Int) % 256 := ⟨_, rfl⟩
  rw [← ha, ← hb, ← hc, ← hd]
  clear ha hb hc hd
  have H0 := Aside0.mk (blk_new w (.cells #[.int .u8 a, .int .u8 b, .int .u8 c, .int .u8 d, .int .u8 0] 5))
  have HB0 := Aside0.mk (show Below w.heap.size w (w.alloc (.cells #[.int .u8 a, .int .u8 b, .int .u8 c, .int .u8 d, .int .u8 0] 5)) from climb)
  have hsz : w.heap.size + 1 = (w.alloc (.cells #[.int .u8 a, .int .u8 b, .int .u8 c, .int .u8 d, .int .u8 0] 5)).heap.size := by simp
  obtain ⟨W, hW⟩ : ∃ W, W = w.alloc (.cells #[.int .u8 a, .int .u8 b, .int .u8 c, .int .u8 d, .int .u8 0] 5) := ⟨_, rfl⟩
  rw [← hW] at H0 HB0 hsz ⊢
  clear hW
  by_cases hn : 0 < s.size
  · go_wp2_with (first
      | (go_at_call 29; (with_reducible refine (tokens_calls s _ (by omega) (HG.out.below hg HB0.out) (by omega)).mono ?_); rintro _ w1 ⟨A, L, cp, ts, rfl, ho, hgt, hL, hL0, hb1⟩; obtain ⟨g, cs, rfl, hgB, hcs, hT⟩ := tok_read ho hgt (hL0 hn); have hL1 := hL0 hn; have CS1 := Aside0.mk hcs; have T1 := Aside0.mk hT; have H1 := Aside0.mk (blk_below H0.out hb1); have HB1 := Aside0.mk (below_step HB0.out hb1); have hsz1 := hb1.size; clear ho hgt hL0 hb1 hcs hT)
      | (go_at_call 30; (with_reducible refine (lengths_calls g L cp _ T1.out hL1 (by omega)).mono ?_); rintro _ w2 ⟨lg, rfl, hln, hb2⟩; have CS2 := Aside0.mk (blk_below CS1.out hb2); have T2 := Aside0.mk (T1.out.below hb2); have LN2 := Aside0.mk hln; have H2 := Aside0.mk (blk_below H1.out hb2); have HB2 := Aside0.mk (below_step HB1.out hb2); have hsz2 := hb2.size; clear hb2 hln)
      | (go_at_call 31; (with_reducible refine (codes_calls lg _ LN2.out).mono ?_); rintro _ w3 ⟨q, ok, rfl, hcd, hb3⟩; have CS3 := Aside0.mk (blk_below CS2.out hb3); have T3 := Aside0.mk (T2.out.below hb3); have LN3 := Aside0.mk (LN2.out.up hb3); have CD3 := Aside0.mk hcd; have H3 := Aside0.mk (blk_below H2.out hb3); have HB3 := Aside0.mk (below_step HB2.out hb3); have hsz3 := hb3.size; clear hb3 hcd))
    have P0 := Aside0.mk (show Pk w (w3.alloc (.cells #[.slice none 0 0, .int .i64 0] 69)) a b c d g L lg q w3.heap.size from ⟨blk_alloc H3.out _, ⟨cs, blk_alloc CS3.out _⟩, T3.out.below climb, LN3.out.up climb, CD3.out.up climb, by have := blk_lt H3.out; omega, by have := blk_lt CS3.out; omega, by have := LN3.out.lt; omega, by have := CD3.out.lt; omega, below_step HB3.out climb⟩)
    have Q0 := Aside0.mk (pw_new w3)
    clear H0 HB0 CS1 T1 H1 HB1 CS2 T2 LN2 H2 HB2 CS3 T3 LN3 CD3 H3 HB3 hsz hsz1 hsz2 hsz3 hgB
    obtain ⟨p, hp⟩ : ∃ p, p = w3.heap.size := ⟨_, rfl⟩
    rw [← hp] at P0 Q0 ⊢
    clear hp
    go_loopg [43] 272 (fun kq v43 w' => ∃ (e : Nat) (A : Option Addr) (n cn : Nat) (fr : Int), v43 = .int .i64 (e : Int) ∧ e + kq = 272 ∧ n ≤ 4 * e ∧ (0 < e → 0 < n) ∧ Aside0 (Pk w w' a b c d g L lg q p) ∧ Aside0 (Pw w' p A n cn fr))
    case atStart => exact ⟨0, none, 0, 0, 0, rfl, rfl, by omega, fun h => h, ⟨P0.out.up climb⟩, ⟨Q0.out.up climb⟩⟩
    case round =>
      clear P0 Q0
      obtain ⟨e, A, n, cn, fr, rfl, hk, hne, hn0, S, Q⟩ := hrel
      by_cases he : e < 272
      · as_aux_lemma =>
        obtain ⟨v, cv, v0, v1⟩ := S.out.ln.at_ he
        go_wp2_with (first | (go_at_call 32; (with_reducible refine (bput_calls p v 4 A n cn fr _ (Q.out.up climb) (by omega) (by omega) (by omega)).mono ?_); rintro _ w5 ⟨rfl, A', n', cn', fr', hQ, hle, hmo, hpo, hA⟩; have S5 := Aside0.mk ((S.out.up climb).aw hA); have Q5 := Aside0.mk hQ; clear hQ hA))
        go_roundg (272 - (e + 1))
        case measure => omega
        case rel => exact ⟨e + 1, A', n', cn', fr', by go_num, by omega, by omega, fun _ => hpo (by omega), ⟨S5.out.up climb⟩, ⟨Q5.out.up climb⟩⟩
      · have hn1 : 0 < n := hn0 (by omega)
        have hn2 : n ≤ 1088 := by omega
        clear hn0 hne hk
        go_wp2_with (fail)
        go_loopg [53] L (fun kq v53 w' => ∃ (e : Nat) (A : Option Addr) (n cn : Nat) (fr : Int), v53 = .int .i64 (e : Int) ∧ e + kq = L ∧ n ≤ 1088 + e * 33554455 ∧ 0 < n ∧ Aside0 (Pk w w' a b c d g L lg q p) ∧ Aside0 (Pw w' p A n cn fr))
        case atStart => exact ⟨0, A, n, cn, fr, rfl, by omega, by omega, hn1, ⟨S.out.up climb⟩, ⟨Q.out.up climb⟩⟩
        case round =>
          clear S Q hn1 hn2 he
          obtain ⟨e, A, n, cn, fr, rfl, hk, hne, hn1, S, Q⟩ := hrel
          by_cases he : e < L
          · obtain ⟨⟨y, a1, x1, b1⟩, k0, k1, k2, k3, y0, y1, x0, x8⟩ := S.out.tr e he
            dsimp only at k0 k1 k2 k3 y0 y1 x0 x8
            obtain ⟨yn, rfl⟩ := Int.eq_ofNat_of_zero_le y0
            obtain ⟨vq, cq, _⟩ := S.out.cd.at_ (j := yn) (by omega)
            obtain ⟨vl, cl, l0, l1⟩ := S.out.ln.at_ (j := yn) (by omega)
            have CQ := Aside0.mk cq
            have CL := Aside0.mk cl
            clear cq cl
            have r1 : (yn : Int) < 272 := by omega
            have r2 : (0 : Int) ≤ (yn : Int) := by omega
            go_upto_region 16 with (fail)
            have P4 := Aside0.mk (show Pk w (wr.alloc (.cells #[.int .i64 (yn : Int), .int .i64 a1, .int .i64 x1, .int .i64 b1] 72)) a b c d g L lg q p from S.out.up climb)
            have Q4 := Aside0.mk (show Pw (wr.alloc (.cells #[.int .i64 (yn : Int), .int .i64 a1, .int .i64 x1, .int .i64 b1] 72)) p A n cn fr from Q.out.up climb)
            have X4 := Aside0.mk (blk_new wr (.cells #[.int .i64 (yn : Int), .int .i64 a1, .int .i64 x1, .int .i64 b1] 72))
            have hxp : wr.heap.size ≠ p := by have := blk_lt Q.out.box; omega
            have TK := Aside0.mk (P4.out.tok X4.out hxp rfl (pw_cell_below climb CQ.out) (pw_cell_below climb CL.out))
            obtain ⟨W4, hW4⟩ : ∃ W4, W4 = wr.alloc (.cells #[.int .i64 (yn : Int), .int .i64 a1, .int .i64 x1, .int .i64 b1] 72) := ⟨_, rfl⟩
            obtain ⟨x, hx⟩ : ∃ x, x = wr.heap.size := ⟨_, rfl⟩
            rw [← hx] at X4 TK hxp ⊢
            rw [← hW4] at P4 Q4 X4 TK ⊢
            clear hW4 hx S Q CQ CL k0 k1 k2 k3
            have hnb : n ≤ 1099511627776 := by omega
            go_region_held3 (fun w' => w'.cell? ⟨q, yn, none⟩ = some (.int .i64 vq) ∧ w'.cell? ⟨lg, yn, none⟩ = some (.int .i64 vl) ∧ w'.cell? ⟨x, 0, none⟩ = some (.int .i64 (yn : Int))) (first | exact TK.out _ (A5.out.climb climb) | exact TK.out _ (Aw.ofBelow climb)) (first | (go_at_call 32; (with_reducible refine (bput_calls p vq vl A n cn fr _ (Q4.out.up climb) l0 l1 hnb).mono ?_); rintro _ w5 ⟨rfl, A', n', cn', fr', hQ, hle, hmo, hpo, hA⟩; have A5 := Aside0.mk ((Aw.ofBelow (w := W4) climb).trans hA); have Q5 := Aside0.mk hQ; clear hQ hA hpo))
            have P5 := Aside0.mk (P4.out.aw A5.out)
            have X5 := Aside0.mk (A5.out.blk X4.out hxp (.inr (by decide)))
            have d0 := (blk_cell X5.out 0).trans rfl
            have d1 := (blk_cell X5.out 1).trans rfl
            have d2 := (blk_cell X5.out 2).trans rfl
            have hn2 : n' ≤ n + 33554432 := by omega
            have hn3 : 0 < n' := by omega
            have hnb2 : n' ≤ 1099511627776 := by omega
            have hnb3 : n' + 8 ≤ 1099511627776 := by omega
            clear P4 Q4 X4 TK A5 hle hmo hnb
            by_cases h256 : 256 ≤ (yn : Int)
            · go_wp2_with (first
                | (go_at_call 32; (with_reducible refine (bput_calls p a1 x1 A' n' cn' fr' _ (Q5.out.up climb) x0 (by omega) hnb2).mono ?_); rintro _ w6 ⟨rfl, A6, n6, cn6, fr6, hQ, hle6, hmo6, hpo6, hA⟩; have Q6 := Aside0.mk hQ; have P6 := Aside0.mk ((P5.out.up climb).aw hA); have X6 := Aside0.mk (hA.blk (blk_below X5.out climb) hxp (.inr (by decide))); have d3 := (blk_cell X6.out 3).trans rfl; clear hQ hA hpo6)
                | (go_at_call 32; (with_reducible refine (bput_calls p b1 15 A6 n6 cn6 fr6 _ (Q6.out.up climb) (by omega) (by omega) (by omega)).mono ?_); rintro _ w7 ⟨rfl, A7, n7, cn7, fr7, hQ, hle7, hmo7, hpo7, hA⟩; have Q7 := Aside0.mk hQ; have P7 := Aside0.mk ((P6.out.up climb).aw hA); clear hQ hA hpo7))
              go_roundg (L - (e + 1))
              case measure => omega
              case rel => exact ⟨e + 1, A7, n7, cn7, fr7, by go_num, by omega, by omega, by omega, ⟨P7.out.up climb⟩, ⟨Q7.out.up climb⟩⟩
            · go_wp2
              go_roundg (L - (e + 1))
              case measure => omega
              case rel => exact ⟨e + 1, A', n', cn', fr', by go_num, by omega, by omega, hn3, ⟨P5.out.up climb⟩, ⟨Q5.out.up climb⟩⟩
          · have hnb : n ≤ 1099511627776 := by omega
            have c0 := Q.out.c0
            have HH := Aside0.mk (head_own S.out.hd)
            obtain ⟨T, hT⟩ : ∃ T, T = strOfNums [a, b, c, d, 0] := ⟨_, rfl⟩
            have hcv0 : (convert 29 9 (.slice (some ⟨w.heap.size, 0, none⟩) 5 5)).run Tryd.prog wr = .ok (.string T) wr := by rw [hT]; exact bytes_run HH.out
            have hTs : T.size = 5 := by rw [hT, strOf_size]; rfl
            have hcat : ¬ 9223372036854775807 < T.size + s.size := by omega
            clear hT
            by_cases hlt : (n : Int) < s.size
            · obtain ⟨ys, ho⟩ := Q.out.own
              obtain ⟨gg, cap', hv, _, hgl⟩ := ho.form hn1
              simp only [Value.slice.injEq] at hv
              obtain ⟨rfl, _, rfl⟩ := hv
              have hgp := own_base ho gg (by simp [Value.ownBlock])
              have hwp := S.out.hp
              have hh := S.out.hd
              have e4 := (blk_cell hh 4).trans rfl
              have f4 := blk_frozen hh 4
              have H1 := Aside0.mk (head_own (blk_put (cs' := #[.int .u8 a, .int .u8 b, .int .u8 c, .int .u8 d, .int .u8 1]) hh 4 (.int .u8 1) rfl))
              have B1 := Aside0.mk (below_set (j := 4) (v := .int .u8 1) S.out.bw (Nat.le_refl w.heap.size))
              have c1 : (wr.setCell ⟨w.heap.size, 4, none⟩ (.int .u8 1)).cell? ⟨p, 0, none⟩ = some (.slice (some ⟨gg, 0, none⟩) n cn) := (cell_far (p := ⟨w.heap.size, 4, none⟩) (a := ⟨p, 0, none⟩) (by show p ≠ w.heap.size; omega) _).trans c0
              have hnews : Aside0 (∀ j u, (ub ys)[j]? = some u → (wr.setCell ⟨w.heap.size, 4, none⟩ (.int .u8 1)).cell? ((⟨gg, 0, none⟩ : Addr).add j) = some u) := ⟨fun j u hu => (cell_far (p := ⟨w.heap.size, 4, none⟩) (by rw [add_block]; show gg ≠ w.heap.size; omega) _).trans (ho.cells (g := gg) rfl j u hu)⟩
              have hyl : ys.length = n := by have := ho.1; simp [ub] at this; omega
              obtain ⟨i0, hi0, hz0, hz1, hz2⟩ := info_parts byte_info
              have hwl : w.heap.size ≤ wr.heap.size := S.out.bw.size
              clear HH hcv0 hcat hh ho hgl
              go_wp2_with (first | (at_builtin; refine wpList_append_lies _ rfl _ _ _ (by rfl) w.heap.size 5 i0 _ 1 1 Tryd.underlying29 hi0 hz0 hz1 hz2 rfl (by omega) (.slice (some ⟨w.heap.size, 0, none⟩) 5 5) 5 (ub [a, b, c, d, 1]) (by rfl) H1.out ⟨gg, 0, none⟩ n cn (ub ys) (by rfl) (by simp [ub, hyl]) hnews.out (by simp [ub, Value.oneCell']) hn1 (by simp only [maxLen]; omega) (by omega) (by rw [World.size_setCell]; omega) _ rfl ?_; intro g2 cap1 w2 hown1 hgrow hat hlt1; have hcv2 : (convert 29 9 (.slice (some ⟨g2, 0, none⟩) (5 + n) cap1)).run Tryd.prog w2 = .ok (.string (strOfNums ([a, b, c, d, 1] ++ ys))) w2 := bytes_run (B := w.heap.size) (by unfold ub at hown1 ⊢; rw [List.map_append]; exact hown1)))
              go_ret
              have hb2 := below_grown B1.out (Below.refl _ _) hgrow H1.out
              exact ⟨_, rfl, by rw [strOf_size]; simp [hyl], by rw [strOf_size]; simp [hyl]; omega, bl hb2⟩
            · go_wp2
              go_ret
              exact ⟨_, rfl, by rw [ByteArray.size_append]; omega, by rw [ByteArray.size_append]; omega, bl S.out.bw⟩
  · have HH := Aside0.mk (head_own H0.out)
    obtain ⟨T, hT⟩ : ∃ T, T = strOfNums [a, b, c, d, 0] := ⟨_, rfl⟩
    have hcv0 : (convert 29 9 (.slice (some ⟨w.heap.size, 0, none⟩) 5 5)).run Tryd.prog W = .ok (.string T) W := by rw [hT]; exact bytes_run HH.out
    have hTs : T.size = 5 := by rw [hT, strOf_size]; rfl
    have hcat : ¬ 9223372036854775807 < T.size + s.size := by omega
    clear hT
    go_wp2
    go_ret
    exact ⟨_, rfl, by rw [ByteArray.size_append]; omega, by rw [ByteArray.size_append]; omega, bl HB0.out⟩
end Go.Proofs.YtefhcgnamfnkbaaDoor.Pr
