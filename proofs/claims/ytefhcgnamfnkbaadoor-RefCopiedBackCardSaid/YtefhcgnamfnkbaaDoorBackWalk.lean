/- RefCopiedBack, walked: it answers true. -/
import Derived.Test.YtefhcgnamfnkbaaDoorPureRefCopiedBack
import Derived.Test.YtefhcgnamfnkbaaDoorPrx1
namespace Go.Proofs.YtefhcgnamfnkbaaDoor.Pr
open Go.RowKit Go.Proofs.YtefhcgnamfnkbaaDoor.Pure Go.Proofs.YtefhcgnamfnkbaaDoorW.PrintWords Go.Proofs.YtefhcgnamfnkbaaDoorW.PrintLast Go.Proofs.YtefhcgnamfnkbaaDoorW.PrintMore
attribute [local go_sem high] eqA44
set_option maxHeartbeats 4000000 in
set_option maxRecDepth 100000 in
theorem refCopiedBack_walk (a0_0 : ByteArray) (a0_1 : Int) (a0_2 : Int) (a0_3 : Int) (a0_4 : Int) (a0_5 : Int) (a0_6 : Bool) (a0_7 : Bool) (a0_8 : Bool) (a0_9 : Bool) (x y : Int) (w : World) (hGl : Gl w) :
    Calls Tryd.prog 7 #[.agg #[.string a0_0, .int .i64 a0_1, .int .i64 a0_2, .int .i64 a0_3, .int .i64 a0_4, .int .i64 a0_5, .bool a0_6, .bool a0_7, .bool a0_8, .bool a0_9], .int .i64 x, .int .i64 y] w fun e w' => e = .returned (.bool true) ∧ Below w.heap.size w w' := by
  obtain ⟨ch, hch, hi⟩ := check_iff a0_0 a0_1 a0_2 a0_3 a0_4 a0_5 a0_6 a0_7 a0_8 a0_9
  have HCH := Aside0.mk hch
  have HI := Aside0.mk hi
  clear hch hi
  go_enter Tryd.func7, Tryd.ntmps7
  go_wp2_with fail
  have hW0 := below_alloc (Below.refl w.heap.size w) (Obj.cells #[.string a0_0, .int .i64 a0_1, .int .i64 a0_2, .int .i64 a0_3, .int .i64 a0_4, .int .i64 a0_5, .bool a0_6, .bool a0_7, .bool a0_8, .bool a0_9] 44)
  have hK0 := blk_new w (Obj.cells #[.string a0_0, .int .i64 a0_1, .int .i64 a0_2, .int .i64 a0_3, .int .i64 a0_4, .int .i64 a0_5, .bool a0_6, .bool a0_7, .bool a0_8, .bool a0_9] 44)
  refine (chancerykeep2_refs.calls true _ (gl_below hGl hW0) rfl).mono ?_
  rintro e w1 ⟨rfl, hb⟩
  have HW1 := Aside0.mk (below_step hW0 hb)
  have HK1 := Aside0.mk (blk_below hK0 hb)
  clear hW0 hK0 hb
  have kk0 := (blk_cell HK1.out 0).trans rfl
  have kk1 := (blk_cell HK1.out 1).trans rfl
  have kk2 := (blk_cell HK1.out 2).trans rfl
  have kk3 := (blk_cell HK1.out 3).trans rfl
  have kk4 := (blk_cell HK1.out 4).trans rfl
  have kk5 := (blk_cell HK1.out 5).trans rfl
  have kk6 := (blk_cell HK1.out 6).trans rfl
  have kk7 := (blk_cell HK1.out 7).trans rfl
  have kk8 := (blk_cell HK1.out 8).trans rfl
  have kk9 := (blk_cell HK1.out 9).trans rfl
  go_wp2_with fail
  clear kk0 kk1 kk2 kk3 kk4 kk5 kk6 kk7 kk8 kk9
  refine (cellref_Check.calls 203 _ _ _ _ _ _ _ _ _ _ _ _ (gl_below hGl HW1.out) HCH.out).mono ?_
  rintro e w2 ⟨rfl, hb⟩
  have HW2 := Aside0.mk (below_step HW1.out hb)
  have HK2 := Aside0.mk (blk_below HK1.out hb)
  clear HW1 HK1 hb
  by_cases h0 : ch = 0
  · subst h0
    obtain ⟨m, hm, m1, m2⟩ := mod2001 x
    obtain ⟨l, hl, l1, l2⟩ := mod2001 y
    have um : wrap64 (m - 1000) = m - 1000 := by unfold wrap64; omega
    have ul : wrap64 (l - 1000) = l - 1000 := by unfold wrap64; omega
    have vm : wrap64 (-(m - 1000)) = -(m - 1000) := by unfold wrap64; omega
    have vl : wrap64 (-(l - 1000)) = -(l - 1000) := by unfold wrap64; omega
    obtain ⟨s1, k1, n1, c1, n3, c3, a1, b1, a3, b3, s5, k5, n5, c5, n7, c7, a5, b5, a7, b7, hC, hD, hR⟩ := back_all a0_0 a0_1 a0_2 a0_3 a0_4 a0_5 a0_6 a0_7 a0_8 a0_9 (HI.out.1 rfl) (m - 1000) (l - 1000) (by omega) (by omega)
    have hC2 : cellref_Copied.f 203 a0_0 a0_1 a0_2 a0_3 a0_4 a0_5 a0_6 a0_7 a0_8 a0_9 (wrap64 (m - 1000)) (wrap64 (l - 1000)) = some (s1, k1, n1, c1, n3, c3, a1, b1, a3, b3, 0) := by rw [um, ul]; exact hC
    have hD2 : cellref_Copied.f 203 s1 k1 n1 c1 n3 c3 a1 b1 a3 b3 (wrap64 (-(wrap64 (m - 1000)))) (wrap64 (-(wrap64 (l - 1000)))) = some (s5, k5, n5, c5, n7, c7, a5, b5, a7, b7, 0) := by rw [um, ul, vm, vl]; exact hD
    have HC := Aside0.mk hC2
    have HD := Aside0.mk hD2
    have HR := Aside0.mk hR
    have HM := Aside0.mk hm
    have HL := Aside0.mk hl
    clear um ul vm vl hC hD hC2 hD2 hR hm hl m1 m2 l1 l2
    go_wp2_with fail
    refine (chancerykeep2_mod.calls _ _ _ _ (gl_below hGl HW2.out) HM.out).mono ?_
    rintro e w3 ⟨rfl, hd⟩
    have HW3 : Aside0 (Below w.heap.size w w3) := by obtain ⟨q, rfl⟩ := hd; exact ⟨pw_below_drewN HW2.out q⟩
    have HK3 : Aside0 (w3.heap[w.heap.size]? = some (.cells #[.string a0_0, .int .i64 a0_1, .int .i64 a0_2, .int .i64 a0_3, .int .i64 a0_4, .int .i64 a0_5, .bool a0_6, .bool a0_7, .bool a0_8, .bool a0_9] 44 (0, 0))) := by obtain ⟨q, rfl⟩ := hd; exact ⟨blk_drewN HK2.out q⟩
    clear hd HW2 HK2
    go_wp2_with fail
    refine (chancerykeep2_mod.calls _ _ _ _ (gl_below hGl HW3.out) HL.out).mono ?_
    rintro e w4 ⟨rfl, hd⟩
    have HW4 : Aside0 (Below w.heap.size w w4) := by obtain ⟨q, rfl⟩ := hd; exact ⟨pw_below_drewN HW3.out q⟩
    have HK4 : Aside0 (w4.heap[w.heap.size]? = some (.cells #[.string a0_0, .int .i64 a0_1, .int .i64 a0_2, .int .i64 a0_3, .int .i64 a0_4, .int .i64 a0_5, .bool a0_6, .bool a0_7, .bool a0_8, .bool a0_9] 44 (0, 0))) := by obtain ⟨q, rfl⟩ := hd; exact ⟨blk_drewN HK3.out q⟩
    clear hd HW3 HK3
    have kk0 := (blk_cell HK4.out 0).trans rfl
    have kk1 := (blk_cell HK4.out 1).trans rfl
    have kk2 := (blk_cell HK4.out 2).trans rfl
    have kk3 := (blk_cell HK4.out 3).trans rfl
    have kk4 := (blk_cell HK4.out 4).trans rfl
    have kk5 := (blk_cell HK4.out 5).trans rfl
    have kk6 := (blk_cell HK4.out 6).trans rfl
    have kk7 := (blk_cell HK4.out 7).trans rfl
    have kk8 := (blk_cell HK4.out 8).trans rfl
    have kk9 := (blk_cell HK4.out 9).trans rfl
    go_wp2_with fail
    clear kk0 kk1 kk2 kk3 kk4 kk5 kk6 kk7 kk8 kk9
    refine (cellref_Copied.calls 203 _ _ _ _ _ _ _ _ _ _ _ _ _ _ _ _ _ _ _ _ _ _ _ _ (gl_below hGl HW4.out) HC.out).mono ?_
    rintro e w5 ⟨rfl, hb⟩
    have HW5 := Aside0.mk (below_step HW4.out hb)
    have HK5 := Aside0.mk (blk_below HK4.out hb)
    clear HW4 HK4 hb
    go_wp2_with fail
    have hW5 := below_alloc HW5.out (Obj.cells #[.string s1, .int .i64 k1, .int .i64 n1, .int .i64 c1, .int .i64 n3, .int .i64 c3, .bool a1, .bool b1, .bool a3, .bool b3] 44)
    have hK5 := blk_alloc HK5.out (Obj.cells #[.string s1, .int .i64 k1, .int .i64 n1, .int .i64 c1, .int .i64 n3, .int .i64 c3, .bool a1, .bool b1, .bool a3, .bool b3] 44)
    have hS5 := blk_new w5 (Obj.cells #[.string s1, .int .i64 k1, .int .i64 n1, .int .i64 c1, .int .i64 n3, .int .i64 c3, .bool a1, .bool b1, .bool a3, .bool b3] 44)
    refine (cellref_Copied.calls 203 _ _ _ _ _ _ _ _ _ _ _ _ _ _ _ _ _ _ _ _ _ _ _ _ (gl_below hGl hW5) HD.out).mono ?_
    rintro e w6 ⟨rfl, hb⟩
    have HW6 := Aside0.mk (below_step hW5 hb)
    have HK6 := Aside0.mk (blk_below hK5 hb)
    have HS6 := Aside0.mk (blk_below hS5 hb)
    clear hW5 hK5 hS5 HW5 HK5 hb
    have kk0 := (blk_cell (blk_alloc HK6.out (Obj.cells #[.string s5, .int .i64 k5, .int .i64 n5, .int .i64 c5, .int .i64 n7, .int .i64 c7, .bool a5, .bool b5, .bool a7, .bool b7] 44)) 0).trans rfl
    have kk1 := (blk_cell (blk_alloc HK6.out (Obj.cells #[.string s5, .int .i64 k5, .int .i64 n5, .int .i64 c5, .int .i64 n7, .int .i64 c7, .bool a5, .bool b5, .bool a7, .bool b7] 44)) 1).trans rfl
    have kk2 := (blk_cell (blk_alloc HK6.out (Obj.cells #[.string s5, .int .i64 k5, .int .i64 n5, .int .i64 c5, .int .i64 n7, .int .i64 c7, .bool a5, .bool b5, .bool a7, .bool b7] 44)) 2).trans rfl
    have kk3 := (blk_cell (blk_alloc HK6.out (Obj.cells #[.string s5, .int .i64 k5, .int .i64 n5, .int .i64 c5, .int .i64 n7, .int .i64 c7, .bool a5, .bool b5, .bool a7, .bool b7] 44)) 3).trans rfl
    have kk4 := (blk_cell (blk_alloc HK6.out (Obj.cells #[.string s5, .int .i64 k5, .int .i64 n5, .int .i64 c5, .int .i64 n7, .int .i64 c7, .bool a5, .bool b5, .bool a7, .bool b7] 44)) 4).trans rfl
    have kk5 := (blk_cell (blk_alloc HK6.out (Obj.cells #[.string s5, .int .i64 k5, .int .i64 n5, .int .i64 c5, .int .i64 n7, .int .i64 c7, .bool a5, .bool b5, .bool a7, .bool b7] 44)) 5).trans rfl
    have kk6 := (blk_cell (blk_alloc HK6.out (Obj.cells #[.string s5, .int .i64 k5, .int .i64 n5, .int .i64 c5, .int .i64 n7, .int .i64 c7, .bool a5, .bool b5, .bool a7, .bool b7] 44)) 6).trans rfl
    have kk7 := (blk_cell (blk_alloc HK6.out (Obj.cells #[.string s5, .int .i64 k5, .int .i64 n5, .int .i64 c5, .int .i64 n7, .int .i64 c7, .bool a5, .bool b5, .bool a7, .bool b7] 44)) 7).trans rfl
    have kk8 := (blk_cell (blk_alloc HK6.out (Obj.cells #[.string s5, .int .i64 k5, .int .i64 n5, .int .i64 c5, .int .i64 n7, .int .i64 c7, .bool a5, .bool b5, .bool a7, .bool b7] 44)) 8).trans rfl
    have kk9 := (blk_cell (blk_alloc HK6.out (Obj.cells #[.string s5, .int .i64 k5, .int .i64 n5, .int .i64 c5, .int .i64 n7, .int .i64 c7, .bool a5, .bool b5, .bool a7, .bool b7] 44)) 9).trans rfl
    have ks1 := (blk_cell (blk_alloc HS6.out (Obj.cells #[.string s5, .int .i64 k5, .int .i64 n5, .int .i64 c5, .int .i64 n7, .int .i64 c7, .bool a5, .bool b5, .bool a7, .bool b7] 44)) 1).trans rfl
    have hWT := below_alloc HW6.out (Obj.cells #[.string s5, .int .i64 k5, .int .i64 n5, .int .i64 c5, .int .i64 n7, .int .i64 c7, .bool a5, .bool b5, .bool a7, .bool b7] 44)
    have HT := Aside0.mk hWT
    clear hWT
    rcases HR.out with ⟨rfl, rfl⟩ | ⟨hk1, hR⟩
    · clear HR HC HD HI HCH HM HL
      go_wp2
      go_ret
      exact ⟨rfl, HT.out⟩
    · have e1 : (k1 == 4) = false := beq_eq_false_iff_ne.2 hk1
      have e2 : decide (k1 = 4) = false := decide_eq_false hk1
      rcases hR with hE | ⟨hk, rfl, hab⟩
      · simp only [Prod.mk.injEq] at hE
        obtain ⟨rfl, rfl, rfl, rfl, rfl, rfl, rfl, rfl, rfl, rfl⟩ := hE
        clear HR HC HD HI HCH HM HL hk1
        go_wp2
        go_ret
        exact ⟨by first | rfl | simp, HT.out⟩
      · clear HR HC HD HI HCH HM HL hk1
        obtain ⟨B, hB⟩ : ∃ B, (s5.toList == a0_0.toList && (k5 == k5 && (n5 == a0_2 && (c5 == a0_3 && (n7 == a0_4 && (c7 == a0_5 && (a5 == a0_6 && (b5 == a0_7 && (a7 == a0_8 && (b7 == a0_9)))))))))) = B := ⟨_, rfl⟩
        have hB2 := hB
        simp only [beq_self_eq_true, Bool.true_and] at hB2
        have g1 : decide (1 ≤ k5) = true := decide_eq_true hk
        have g2 : decide (k5 ≥ 1) = true := decide_eq_true hk
        cases B with
        | true =>
          go_wp2
          go_ret
          exact ⟨by first | rfl | simp, HT.out⟩
        | false =>
          by_cases hx : (a0_6 != a0_8) = true
          · have hx3 : (a0_6 == a0_8) = false := by simpa using hx
            have hx4 : (!(a0_6 == a0_8)) = true := by rw [hx3]; rfl
            have hx5 : decide (a0_6 = a0_8) = false := by simpa using hx
            have hx6 : ¬ a0_6 = a0_8 := by simpa using hx
            go_wp2
            go_ret
            exact ⟨by first | rfl | simp, HT.out⟩
          · have hx6 : a0_6 = a0_8 := by simpa using hx
            have hab2 := hab.resolve_left hx
            clear hab hx
            subst hx6
            have hy : (a0_7 != a0_9) = true := hab2
            have hy3 : (a0_7 == a0_9) = false := by simpa using hy
            have hy6 : ¬ a0_7 = a0_9 := by simpa using hy
            go_wp2
            go_ret
            exact ⟨by first | rfl | simp, HT.out⟩
  · have e1 : (ch != 0) = true := by simp [h0]
    have e2 : (ch == 0) = false := by simp [h0]
    have e3 : decide (ch = 0) = false := by simp [h0]
    go_wp2
    go_ret
    exact ⟨rfl, HW2.out⟩
end Go.Proofs.YtefhcgnamfnkbaaDoor.Pr
