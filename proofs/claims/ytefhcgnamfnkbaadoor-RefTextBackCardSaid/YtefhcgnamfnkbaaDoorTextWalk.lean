/- RefTextBack, walked: it answers true. -/
import Derived.Test.YtefhcgnamfnkbaaDoorPureRefText3
import Derived.Test.YtefhcgnamfnkbaaDoorParse
import Derived.Test.YtefhcgnamfnkbaaDoorRefs
import Derived.Test.YtefhcgnamfnkbaaDoorPrx1
namespace Go.Proofs.YtefhcgnamfnkbaaDoor.Pr
open Go.RowKit Go.Proofs.YtefhcgnamfnkbaaDoor.Pure Go.Proofs.YtefhcgnamfnkbaaDoorW.PrintWords Go.Proofs.YtefhcgnamfnkbaaDoorW.PrintLast Go.Proofs.YtefhcgnamfnkbaaDoorW.PrintMore
attribute [local go_sem high] eqA44
/-- What Print answers where Check finds a fault. -/
theorem print_bad (k : Nat) (s : ByteArray) (d n c n2 c2 : Int) (a b a2 b2 : Bool) (e : Int) (he : ¬ e = 0) (h : cellref_Check.f k s d n c n2 c2 a b a2 b2 = some e) : cellref_Print.f k s d n c n2 c2 a b a2 b2 = some (⟨#[]⟩, e) := by
  unfold cellref_Print.f
  rw [h, Option.bind_some, if_neg he]
set_option maxHeartbeats 4000000 in
set_option maxRecDepth 100000 in
theorem refTextBack_walk (s : ByteArray) (d n c n2 c2 : Int) (a b a2 b2 : Bool) (w : World) (hGl : Gl w) :
    Calls Tryd.prog 8 #[.agg #[.string s, .int .i64 d, .int .i64 n, .int .i64 c, .int .i64 n2, .int .i64 c2, .bool a, .bool b, .bool a2, .bool b2]] w fun e w' => e = .returned (.bool true) ∧ Below w.heap.size w w' := by
  obtain ⟨ch, hch, hi⟩ := check_k 1001 (by decide) s d n c n2 c2 a b a2 b2
  have HCH := Aside0.mk hch
  have HI := Aside0.mk hi
  clear hch hi
  go_enter Tryd.func8, Tryd.ntmps8
  go_wp2_with fail
  have hW0 := below_alloc (Below.refl w.heap.size w) (Obj.cells #[.string s, .int .i64 d, .int .i64 n, .int .i64 c, .int .i64 n2, .int .i64 c2, .bool a, .bool b, .bool a2, .bool b2] 44)
  have hK0 := blk_new w (Obj.cells #[.string s, .int .i64 d, .int .i64 n, .int .i64 c, .int .i64 n2, .int .i64 c2, .bool a, .bool b, .bool a2, .bool b2] 44)
  refine (chancerykeep2_refs.calls true _ (gl_below hGl hW0) rfl).mono ?_
  rintro e w1 ⟨rfl, hb⟩
  have HW1 := Aside0.mk (below_step hW0 hb)
  have HK1 := Aside0.mk (blk_below hK0 hb)
  clear hW0 hK0 hb
  have kc0 := (blk_cell HK1.out 0).trans rfl
  have kc1 := (blk_cell HK1.out 1).trans rfl
  have kc2 := (blk_cell HK1.out 2).trans rfl
  have kc3 := (blk_cell HK1.out 3).trans rfl
  have kc4 := (blk_cell HK1.out 4).trans rfl
  have kc5 := (blk_cell HK1.out 5).trans rfl
  have kc6 := (blk_cell HK1.out 6).trans rfl
  have kc7 := (blk_cell HK1.out 7).trans rfl
  have kc8 := (blk_cell HK1.out 8).trans rfl
  have kc9 := (blk_cell HK1.out 9).trans rfl
  go_wp2_with fail
  clear kc0 kc1 kc2 kc3 kc4 kc5 kc6 kc7 kc8 kc9
  by_cases h0 : ch = 0
  · subst h0
    obtain ⟨t, t2, q1, q2, q3, q4, q5, q6, q7, q8, q9, q10, q11, hP, hA, hT, hB, hQ⟩ := text_law 1001 (by decide) s d n c n2 c2 a b a2 b2 (HI.out.1 rfl)
    have HP := Aside0.mk hP
    have HA := Aside0.mk hA
    have HT := Aside0.mk hT
    have HB := Aside0.mk hB
    have HQ := Aside0.mk hQ
    clear hP hA hT hB hQ HCH HI
    refine (cellref_Print.calls 1001 _ _ _ _ _ _ _ _ _ _ _ _ _ (gl_below hGl HW1.out) HP.out).mono ?_
    rintro e w2 ⟨rfl, hb⟩
    have HW2 := Aside0.mk (below_step HW1.out hb)
    have HK2 := Aside0.mk (blk_below HK1.out hb)
    clear HW1 HK1 hb
    go_wp2_with fail
    refine (cellref_Parse.calls 1001 _ _ _ _ _ _ _ _ _ _ _ _ _ (gl_below hGl HW2.out) HA.out).mono ?_
    rintro e w3 ⟨rfl, hb⟩
    have HW3 := Aside0.mk (below_step HW2.out hb)
    have HK3 := Aside0.mk (blk_below HK2.out hb)
    clear HW2 HK2 hb
    go_wp2_with fail
    have hW := below_alloc HW3.out (Obj.cells #[.string s, .int .i64 d, .int .i64 n, .int .i64 c, .int .i64 n2, .int .i64 c2, .bool a, .bool b, .bool a2, .bool b2] 44)
    have hK := blk_alloc HK3.out (Obj.cells #[.string s, .int .i64 d, .int .i64 n, .int .i64 c, .int .i64 n2, .int .i64 c2, .bool a, .bool b, .bool a2, .bool b2] 44)
    have hS := blk_new w3 (Obj.cells #[.string s, .int .i64 d, .int .i64 n, .int .i64 c, .int .i64 n2, .int .i64 c2, .bool a, .bool b, .bool a2, .bool b2] 44)
    refine (strings_ToLower.calls _ _ _ (gl_below hGl hW) HT.out).mono ?_
    rintro e w4 ⟨rfl, hb⟩
    have HW4 := Aside0.mk (below_step hW hb)
    have HK4 := Aside0.mk (blk_below hK hb)
    have HS4 := Aside0.mk (blk_below hS hb)
    clear HW3 HK3 hW hK hS hb
    go_wp2_with fail
    refine (cellref_Parse.calls 1001 _ _ _ _ _ _ _ _ _ _ _ _ _ (gl_below hGl HW4.out) HB.out).mono ?_
    rintro e w5 ⟨rfl, hb⟩
    have HW5 := Aside0.mk (below_step HW4.out hb)
    have HK5 := Aside0.mk (blk_below HK4.out hb)
    have HS5 := Aside0.mk (blk_below HS4.out hb)
    clear HW4 HK4 HS4 hb
    have HT5 := Aside0.mk (below_alloc HW5.out (Obj.cells #[.string q1, .int .i64 q2, .int .i64 q3, .int .i64 q4, .int .i64 q5, .int .i64 q6, .bool q7, .bool q8, .bool q9, .bool q10] 44))
    have kc0 := (blk_cell (blk_alloc HK5.out (Obj.cells #[.string q1, .int .i64 q2, .int .i64 q3, .int .i64 q4, .int .i64 q5, .int .i64 q6, .bool q7, .bool q8, .bool q9, .bool q10] 44)) 0).trans rfl
    have kc1 := (blk_cell (blk_alloc HK5.out (Obj.cells #[.string q1, .int .i64 q2, .int .i64 q3, .int .i64 q4, .int .i64 q5, .int .i64 q6, .bool q7, .bool q8, .bool q9, .bool q10] 44)) 1).trans rfl
    have kc2 := (blk_cell (blk_alloc HK5.out (Obj.cells #[.string q1, .int .i64 q2, .int .i64 q3, .int .i64 q4, .int .i64 q5, .int .i64 q6, .bool q7, .bool q8, .bool q9, .bool q10] 44)) 2).trans rfl
    have kc3 := (blk_cell (blk_alloc HK5.out (Obj.cells #[.string q1, .int .i64 q2, .int .i64 q3, .int .i64 q4, .int .i64 q5, .int .i64 q6, .bool q7, .bool q8, .bool q9, .bool q10] 44)) 3).trans rfl
    have kc4 := (blk_cell (blk_alloc HK5.out (Obj.cells #[.string q1, .int .i64 q2, .int .i64 q3, .int .i64 q4, .int .i64 q5, .int .i64 q6, .bool q7, .bool q8, .bool q9, .bool q10] 44)) 4).trans rfl
    have kc5 := (blk_cell (blk_alloc HK5.out (Obj.cells #[.string q1, .int .i64 q2, .int .i64 q3, .int .i64 q4, .int .i64 q5, .int .i64 q6, .bool q7, .bool q8, .bool q9, .bool q10] 44)) 5).trans rfl
    have kc6 := (blk_cell (blk_alloc HK5.out (Obj.cells #[.string q1, .int .i64 q2, .int .i64 q3, .int .i64 q4, .int .i64 q5, .int .i64 q6, .bool q7, .bool q8, .bool q9, .bool q10] 44)) 6).trans rfl
    have kc7 := (blk_cell (blk_alloc HK5.out (Obj.cells #[.string q1, .int .i64 q2, .int .i64 q3, .int .i64 q4, .int .i64 q5, .int .i64 q6, .bool q7, .bool q8, .bool q9, .bool q10] 44)) 7).trans rfl
    have kc8 := (blk_cell (blk_alloc HK5.out (Obj.cells #[.string q1, .int .i64 q2, .int .i64 q3, .int .i64 q4, .int .i64 q5, .int .i64 q6, .bool q7, .bool q8, .bool q9, .bool q10] 44)) 8).trans rfl
    have kc9 := (blk_cell (blk_alloc HK5.out (Obj.cells #[.string q1, .int .i64 q2, .int .i64 q3, .int .i64 q4, .int .i64 q5, .int .i64 q6, .bool q7, .bool q8, .bool q9, .bool q10] 44)) 9).trans rfl
    have sc0 := (blk_cell (blk_alloc HS5.out (Obj.cells #[.string q1, .int .i64 q2, .int .i64 q3, .int .i64 q4, .int .i64 q5, .int .i64 q6, .bool q7, .bool q8, .bool q9, .bool q10] 44)) 0).trans rfl
    have sc1 := (blk_cell (blk_alloc HS5.out (Obj.cells #[.string q1, .int .i64 q2, .int .i64 q3, .int .i64 q4, .int .i64 q5, .int .i64 q6, .bool q7, .bool q8, .bool q9, .bool q10] 44)) 1).trans rfl
    have sc2 := (blk_cell (blk_alloc HS5.out (Obj.cells #[.string q1, .int .i64 q2, .int .i64 q3, .int .i64 q4, .int .i64 q5, .int .i64 q6, .bool q7, .bool q8, .bool q9, .bool q10] 44)) 2).trans rfl
    have sc3 := (blk_cell (blk_alloc HS5.out (Obj.cells #[.string q1, .int .i64 q2, .int .i64 q3, .int .i64 q4, .int .i64 q5, .int .i64 q6, .bool q7, .bool q8, .bool q9, .bool q10] 44)) 3).trans rfl
    have sc4 := (blk_cell (blk_alloc HS5.out (Obj.cells #[.string q1, .int .i64 q2, .int .i64 q3, .int .i64 q4, .int .i64 q5, .int .i64 q6, .bool q7, .bool q8, .bool q9, .bool q10] 44)) 4).trans rfl
    have sc5 := (blk_cell (blk_alloc HS5.out (Obj.cells #[.string q1, .int .i64 q2, .int .i64 q3, .int .i64 q4, .int .i64 q5, .int .i64 q6, .bool q7, .bool q8, .bool q9, .bool q10] 44)) 5).trans rfl
    have sc6 := (blk_cell (blk_alloc HS5.out (Obj.cells #[.string q1, .int .i64 q2, .int .i64 q3, .int .i64 q4, .int .i64 q5, .int .i64 q6, .bool q7, .bool q8, .bool q9, .bool q10] 44)) 6).trans rfl
    have sc7 := (blk_cell (blk_alloc HS5.out (Obj.cells #[.string q1, .int .i64 q2, .int .i64 q3, .int .i64 q4, .int .i64 q5, .int .i64 q6, .bool q7, .bool q8, .bool q9, .bool q10] 44)) 7).trans rfl
    have sc8 := (blk_cell (blk_alloc HS5.out (Obj.cells #[.string q1, .int .i64 q2, .int .i64 q3, .int .i64 q4, .int .i64 q5, .int .i64 q6, .bool q7, .bool q8, .bool q9, .bool q10] 44)) 8).trans rfl
    have sc9 := (blk_cell (blk_alloc HS5.out (Obj.cells #[.string q1, .int .i64 q2, .int .i64 q3, .int .i64 q4, .int .i64 q5, .int .i64 q6, .bool q7, .bool q8, .bool q9, .bool q10] 44)) 9).trans rfl
    by_cases g0 : s.toList = []
    · by_cases g4 : d = 4
      · subst g4
        have u1 : s.toList.isEmpty = true := by rw [g0]; rfl
        have u2 : (!s.toList.isEmpty) = false := by rw [u1]; rfl
        have u3 : (s.toList == []) = true := beq_iff_eq.2 g0
        clear HP HA HT HB HQ g0
        go_wp2
        go_ret
        exact ⟨by first | rfl | simp, HT5.out⟩
      · have hq := HQ.out g0 g4
        simp only [Prod.mk.injEq] at hq
        obtain ⟨rfl, rfl, rfl, rfl, rfl, rfl, rfl, rfl, rfl, rfl, rfl⟩ := hq
        have u1 : q1.toList.isEmpty = true := by rw [g0]; rfl
        have u2 : (!q1.toList.isEmpty) = false := by rw [u1]; rfl
        have u3 : (q1.toList == []) = true := beq_iff_eq.2 g0
        have v1 : (q2 == 4) = false := beq_eq_false_iff_ne.2 g4
        have v2 : decide (q2 = 4) = false := decide_eq_false g4
        clear HP HA HT HB HQ g0
        go_wp2
        go_ret
        exact ⟨by first | rfl | simp, HT5.out⟩
    · skip
      have u1 : s.toList.isEmpty = false := by cases hc : s.toList with | nil => exact absurd hc g0 | cons x l => rfl
      have u2 : (!s.toList.isEmpty) = true := by rw [u1]; rfl
      have u3 : (s.toList == []) = false := beq_eq_false_iff_ne.2 g0
      clear HP HA HT HB HQ g0
      go_wp2
      go_ret
      exact ⟨by first | rfl | simp, HT5.out⟩
  · have hP := print_bad 1001 s d n c n2 c2 a b a2 b2 ch h0 HCH.out
    have HP := Aside0.mk hP
    clear hP HI
    have u1 : (ch != 0) = true := by simp [h0]
    have u2 : (ch == 0) = false := by simp [h0]
    have u3 : decide (ch = 0) = false := by simp [h0]
    refine (cellref_Print.calls 1001 _ _ _ _ _ _ _ _ _ _ _ _ _ (gl_below hGl HW1.out) HP.out).mono ?_
    rintro e w2 ⟨rfl, hb⟩
    have HW2 := Aside0.mk (below_step HW1.out hb)
    have HK2 := Aside0.mk (blk_below HK1.out hb)
    clear HW1 HK1 hb
    have kc0 := (blk_cell HK2.out 0).trans rfl
    have kc1 := (blk_cell HK2.out 1).trans rfl
    have kc2 := (blk_cell HK2.out 2).trans rfl
    have kc3 := (blk_cell HK2.out 3).trans rfl
    have kc4 := (blk_cell HK2.out 4).trans rfl
    have kc5 := (blk_cell HK2.out 5).trans rfl
    have kc6 := (blk_cell HK2.out 6).trans rfl
    have kc7 := (blk_cell HK2.out 7).trans rfl
    have kc8 := (blk_cell HK2.out 8).trans rfl
    have kc9 := (blk_cell HK2.out 9).trans rfl
    go_wp2_with fail
    refine (cellref_Check.calls 1001 _ _ _ _ _ _ _ _ _ _ _ _ (gl_below hGl HW2.out) HCH.out).mono ?_
    rintro e w3 ⟨rfl, hb⟩
    have HW3 := Aside0.mk (below_step HW2.out hb)
    clear kc0 kc1 kc2 kc3 kc4 kc5 kc6 kc7 kc8 kc9
    clear hb HK2
    go_wp2
    go_ret
    exact ⟨by first | rfl | simp, HW3.out⟩
end Go.Proofs.YtefhcgnamfnkbaaDoor.Pr
