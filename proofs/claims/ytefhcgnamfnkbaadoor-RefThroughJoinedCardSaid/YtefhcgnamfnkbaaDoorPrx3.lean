-- Written by a program of this session (wip/tools) for this claim.
import Derived.Test.YtefhcgnamfnkbaaDoorPrx0
import Derived.Test.YtefhcgnamfnkbaaDoorPrx1
import Derived.Test.YtefhcgnamfnkbaaDoorPrx2
namespace Go.Proofs.YtefhcgnamfnkbaaDoor.Pr
open Go.RowKit Go.Proofs.YtefhcgnamfnkbaaDoorW.PrintWords Go.Proofs.YtefhcgnamfnkbaaDoorW.PrintLast Go.Proofs.YtefhcgnamfnkbaaDoorW.PrintMore
attribute [local go_sem] max2_int min2_int max_two min_two max_three min_three max_four min_four   -- for this text's walks alone
set_option linter.unusedVariables false
set_option linter.unusedSimpArgs false

attribute [local go_sem high] eqA44
/-! ### cellref_Check: function 19 -/
mutual
def cellref_Check.j0 : Nat → Bool → ByteArray → Int → Int → Int → Int → Int → Bool → Bool → Bool → Bool → Option (Int)
  | 0, _, _, _, _, _, _, _, _, _, _, _ => none
  | k + 1, x11, x110000, x110001, x110002, x110003, x110004, x110005, x110006, x110007, x110008, x110009 => if x11 = true then (some 8) else ((cellref_name.f k x110000).bind fun t110 => (if t110 = 0 then ((cellref_meaning.f x110000 x110001 x110002 x110003 x110004 x110005 x110006 x110007 x110008 x110009).bind fun bt111 => (if (!(x110000.toList == bt111.1.toList) || (!(x110001 == bt111.2.1) || (!(x110002 == bt111.2.2.1) || (!(x110003 == bt111.2.2.2.1) || (!(x110004 == bt111.2.2.2.2.1) || (!(x110005 == bt111.2.2.2.2.2.1) || (!(x110006 == bt111.2.2.2.2.2.2.1) || (!(x110007 == bt111.2.2.2.2.2.2.2.1) || (!(x110008 == bt111.2.2.2.2.2.2.2.2.1) || (!(x110009 == bt111.2.2.2.2.2.2.2.2.2))))))))))) = true then (some 4) else ((cellref_permitted.f x110002).bind fun t121 => (if t121 = true then ((cellref_permitted.f x110003).bind fun t122 => (if t122 = true then ((cellref_permitted.f x110004).bind fun t123 => (if t123 = true then ((cellref_permitted.f x110005).bind fun t124 => (cellref_Check.j1 k (!t124) x110000 x110001 x110002 x110003 x110004 x110005 x110006 x110007 x110008 x110009)) else (cellref_Check.j1 k true x110000 x110001 x110002 x110003 x110004 x110005 x110006 x110007 x110008 x110009))) else (cellref_Check.j1 k true x110000 x110001 x110002 x110003 x110004 x110005 x110006 x110007 x110008 x110009))) else (cellref_Check.j1 k true x110000 x110001 x110002 x110003 x110004 x110005 x110006 x110007 x110008 x110009))))) else (some t110)))
def cellref_Check.j1 : Nat → Bool → ByteArray → Int → Int → Int → Int → Int → Bool → Bool → Bool → Bool → Option (Int)
  | 0, _, _, _, _, _, _, _, _, _, _, _ => none
  | k + 1, x43, x110000, x110001, x110002, x110003, x110004, x110005, x110006, x110007, x110008, x110009 => if x43 = true then (some 2) else (if x110001 = 0 then (some 0) else (if x110004 < x110002 then (some 5) else (if x110005 < x110003 then (some 5) else (some 0))))
end
def cellref_Check.f (k : Nat) (a0_0 : ByteArray) (a0_1 : Int) (a0_2 : Int) (a0_3 : Int) (a0_4 : Int) (a0_5 : Int) (a0_6 : Bool) (a0_7 : Bool) (a0_8 : Bool) (a0_9 : Bool) : Option (Int) := if a0_1 < 0 then (cellref_Check.j0 k true a0_0 a0_1 a0_2 a0_3 a0_4 a0_5 a0_6 a0_7 a0_8 a0_9) else (cellref_Check.j0 k (decide (a0_1 > 4)) a0_0 a0_1 a0_2 a0_3 a0_4 a0_5 a0_6 a0_7 a0_8 a0_9)
theorem cellref_Check.mono_l : ∀ k, (∀ y0 y1 y2 y3 y4 y5 y6 y7 y8 y9 y10, LeO (cellref_Check.j0 k y0 y1 y2 y3 y4 y5 y6 y7 y8 y9 y10) (cellref_Check.j0 (k + 1) y0 y1 y2 y3 y4 y5 y6 y7 y8 y9 y10)) ∧ (∀ y0 y1 y2 y3 y4 y5 y6 y7 y8 y9 y10, LeO (cellref_Check.j1 k y0 y1 y2 y3 y4 y5 y6 y7 y8 y9 y10) (cellref_Check.j1 (k + 1) y0 y1 y2 y3 y4 y5 y6 y7 y8 y9 y10))
  | 0 => ⟨fun _ _ _ _ _ _ _ _ _ _ _ r h => by simp [cellref_Check.j0] at h, fun _ _ _ _ _ _ _ _ _ _ _ r h => by simp [cellref_Check.j1] at h⟩
  | k + 1 => by
    obtain ⟨ih0, ih1⟩ := cellref_Check.mono_l k
    refine ⟨?_, ?_⟩
    · intro y0 y1 y2 y3 y4 y5 y6 y7 y8 y9 y10
      unfold cellref_Check.j0
      repeat' first
      | (with_reducible exact ih0 _ _ _ _ _ _ _ _ _ _ _)
      | (with_reducible exact ih1 _ _ _ _ _ _ _ _ _ _ _)
      | (with_reducible exact cellref_name.mono _ _)
      | (with_reducible exact LeO.refl _)
      | (with_reducible exact LeO.none _)
      | (with_reducible refine LeO.ite ?_ ?_)
      | (with_reducible refine LeO.bind ?_ (fun _ => ?_))
      | exact ih0 _ _ _ _ _ _ _ _ _ _ _
      | exact ih1 _ _ _ _ _ _ _ _ _ _ _
      | exact cellref_name.mono _ _
      | exact LeO.none _
      | refine LeO.ite ?_ ?_
      | refine LeO.bind ?_ (fun _ => ?_)
    · intro y0 y1 y2 y3 y4 y5 y6 y7 y8 y9 y10
      unfold cellref_Check.j1
      repeat' first
      | (with_reducible exact ih0 _ _ _ _ _ _ _ _ _ _ _)
      | (with_reducible exact ih1 _ _ _ _ _ _ _ _ _ _ _)
      | (with_reducible exact cellref_name.mono _ _)
      | (with_reducible exact LeO.refl _)
      | (with_reducible exact LeO.none _)
      | (with_reducible refine LeO.ite ?_ ?_)
      | (with_reducible refine LeO.bind ?_ (fun _ => ?_))
      | exact ih0 _ _ _ _ _ _ _ _ _ _ _
      | exact ih1 _ _ _ _ _ _ _ _ _ _ _
      | exact cellref_name.mono _ _
      | exact LeO.none _
      | refine LeO.ite ?_ ?_
      | refine LeO.bind ?_ (fun _ => ?_)
theorem cellref_Check.mono : ∀ a0 a1 a2 a3 a4 a5 a6 a7 a8 a9 k, LeO (cellref_Check.f k a0 a1 a2 a3 a4 a5 a6 a7 a8 a9) (cellref_Check.f (k + 1) a0 a1 a2 a3 a4 a5 a6 a7 a8 a9) := by
  intro a0 a1 a2 a3 a4 a5 a6 a7 a8 a9 k
  obtain ⟨ih0, ih1⟩ := cellref_Check.mono_l k
  unfold cellref_Check.f
  repeat' first
      | (with_reducible exact ih0 _ _ _ _ _ _ _ _ _ _ _)
      | (with_reducible exact ih1 _ _ _ _ _ _ _ _ _ _ _)
      | (with_reducible exact cellref_name.mono _ _)
      | (with_reducible exact LeO.refl _)
      | (with_reducible exact LeO.none _)
      | (with_reducible refine LeO.ite ?_ ?_)
      | (with_reducible refine LeO.bind ?_ (fun _ => ?_))
      | exact ih0 _ _ _ _ _ _ _ _ _ _ _
      | exact ih1 _ _ _ _ _ _ _ _ _ _ _
      | exact cellref_name.mono _ _
      | exact LeO.none _
      | refine LeO.ite ?_ ?_
      | refine LeO.bind ?_ (fun _ => ?_)
set_option maxHeartbeats 8000000 in
set_option maxRecDepth 100000 in
theorem cellref_Check.calls (k : Nat) (a0_0 : ByteArray) (a0_1 : Int) (a0_2 : Int) (a0_3 : Int) (a0_4 : Int) (a0_5 : Int) (a0_6 : Bool) (a0_7 : Bool) (a0_8 : Bool) (a0_9 : Bool) (r : Int) (w : World) (hGl : Gl w) (h : cellref_Check.f k a0_0 a0_1 a0_2 a0_3 a0_4 a0_5 a0_6 a0_7 a0_8 a0_9 = some r) :
    Calls Tryd.prog 19 #[.agg #[.string a0_0, .int .i64 a0_1, .int .i64 a0_2, .int .i64 a0_3, .int .i64 a0_4, .int .i64 a0_5, .bool a0_6, .bool a0_7, .bool a0_8, .bool a0_9]] w fun e w' => e = .returned (.int .i64 r) ∧ Below w.heap.size w w' := by
 have hu44 := Tryd.underlying44
 have HB := Aside0.mk (Below.refl w.heap.size w)
 have H : (if a0_1 < 0 then (cellref_Check.j0 k true a0_0 a0_1 a0_2 a0_3 a0_4 a0_5 a0_6 a0_7 a0_8 a0_9) else (cellref_Check.j0 k (decide (a0_1 > 4)) a0_0 a0_1 a0_2 a0_3 a0_4 a0_5 a0_6 a0_7 a0_8 a0_9)) = some r := h
 clear h
 have HC2 := Aside0.mk H
 clear H
 go_enter Tryd.func19, Tryd.ntmps19
 go_upto_region 1 with (first | ((with_reducible refine gate_dst (N := 1) rfl ?_); refine box_event ?hg (N := 1) ?hd (cs := #[.string a0_0, .int .i64 a0_1, .int .i64 a0_2, .int .i64 a0_3, .int .i64 a0_4, .int .i64 a0_5, .bool a0_6, .bool a0_7, .bool a0_8, .bool a0_9]) (t := 44) ?hr ?_; (case hd => rfl); (case hg => rfl); (case hr => first | (go_simp; done) | (go_simp; rfl)); intro gb109 hg w3 hbox hb; have n0_ := Aside0.mk (below_step (bl HB.out) hb); have n1_ := Aside0.mk (hbox); have n2_ := Aside0.mk (szg hg (bl HB.out)); have n3_ := Aside0.mk (szg hg (bl HB.out)); clear HB; have HB := n0_; have BK109 := n1_; have GW109 := n2_; have GE109 := n3_; clear n0_ n1_ n2_ n3_; clear hb hbox hg))
 (try simp only [Act.put, List.setIfInBounds_toArray, List.set_cons_zero, List.set_cons_succ])
 go_cut [11] (fun v11 wc => ∃ (kq : Nat) (x11_1 : Bool), v11 = .bool x11_1 ∧ Aside0 (cellref_Check.j0 kq x11_1 a0_0 a0_1 a0_2 a0_3 a0_4 a0_5 a0_6 a0_7 a0_8 a0_9 = some r) ∧ Aside0 (kq ≤ k) ∧ Aside0 (wc.heap[gb109]? = some (.cells #[.string a0_0, .int .i64 a0_1, .int .i64 a0_2, .int .i64 a0_3, .int .i64 a0_4, .int .i64 a0_5, .bool a0_6, .bool a0_7, .bool a0_8, .bool a0_9] 44 (0, 0))) ∧ Aside0 (Below w.heap.size w wc))
 case first =>
  have H := HC2.out
  clear HC2
  by_cases c4 : a0_1 < 0
  ·rw [if_pos c4] at H
   have c4b0 : decide (a0_1 < 0) = true := decide_eq_true c4
   clear c4
   (first | rw [c4b0] | (simp only [i64_w, i32_w]; rw [c4b0]) | rw [c4b2] | skip)
   have H' := Aside0.mk H
   clear H
   have hcz5_0 : w3.cell? ⟨gb109, 0, none⟩ = some (.string a0_0) := (blk_cell BK109.out 0).trans rfl
   have hcz5_1 : w3.cell? ⟨gb109, 1, none⟩ = some (.int .i64 a0_1) := (blk_cell BK109.out 1).trans rfl
   have hcz5_2 : w3.cell? ⟨gb109, 2, none⟩ = some (.int .i64 a0_2) := (blk_cell BK109.out 2).trans rfl
   have hcz5_3 : w3.cell? ⟨gb109, 3, none⟩ = some (.int .i64 a0_3) := (blk_cell BK109.out 3).trans rfl
   have hcz5_4 : w3.cell? ⟨gb109, 4, none⟩ = some (.int .i64 a0_4) := (blk_cell BK109.out 4).trans rfl
   have hcz5_5 : w3.cell? ⟨gb109, 5, none⟩ = some (.int .i64 a0_5) := (blk_cell BK109.out 5).trans rfl
   have hcz5_6 : w3.cell? ⟨gb109, 6, none⟩ = some (.bool a0_6) := (blk_cell BK109.out 6).trans rfl
   have hcz5_7 : w3.cell? ⟨gb109, 7, none⟩ = some (.bool a0_7) := (blk_cell BK109.out 7).trans rfl
   have hcz5_8 : w3.cell? ⟨gb109, 8, none⟩ = some (.bool a0_8) := (blk_cell BK109.out 8).trans rfl
   have hcz5_9 : w3.cell? ⟨gb109, 9, none⟩ = some (.bool a0_9) := (blk_cell BK109.out 9).trans rfl
   have hfz5_0 := blk_frozen BK109.out 0
   have hfz5_1 := blk_frozen BK109.out 1
   have hfz5_2 := blk_frozen BK109.out 2
   have hfz5_3 := blk_frozen BK109.out 3
   have hfz5_4 := blk_frozen BK109.out 4
   have hfz5_5 := blk_frozen BK109.out 5
   have hfz5_6 := blk_frozen BK109.out 6
   have hfz5_7 := blk_frozen BK109.out 7
   have hfz5_8 := blk_frozen BK109.out 8
   have hfz5_9 := blk_frozen BK109.out 9
   go_wp2
   go_meet
   case rel => exact ⟨_, (true), (by first | rfl | (simp; done) | (simp [*]; done)), H', ⟨by first | omega | exact Nat.le_refl _⟩, ⟨bk BK109.out⟩, ⟨bl HB.out⟩⟩
  ·rw [if_neg c4] at H
   have c4b0 : decide (a0_1 < 0) = false := decide_eq_false c4
   clear c4
   (first | rw [c4b0] | (simp only [i64_w, i32_w]; rw [c4b0]) | rw [c4b2] | skip)
   have H' := Aside0.mk H
   clear H
   have hcz6_0 : w3.cell? ⟨gb109, 0, none⟩ = some (.string a0_0) := (blk_cell BK109.out 0).trans rfl
   have hcz6_1 : w3.cell? ⟨gb109, 1, none⟩ = some (.int .i64 a0_1) := (blk_cell BK109.out 1).trans rfl
   have hcz6_2 : w3.cell? ⟨gb109, 2, none⟩ = some (.int .i64 a0_2) := (blk_cell BK109.out 2).trans rfl
   have hcz6_3 : w3.cell? ⟨gb109, 3, none⟩ = some (.int .i64 a0_3) := (blk_cell BK109.out 3).trans rfl
   have hcz6_4 : w3.cell? ⟨gb109, 4, none⟩ = some (.int .i64 a0_4) := (blk_cell BK109.out 4).trans rfl
   have hcz6_5 : w3.cell? ⟨gb109, 5, none⟩ = some (.int .i64 a0_5) := (blk_cell BK109.out 5).trans rfl
   have hcz6_6 : w3.cell? ⟨gb109, 6, none⟩ = some (.bool a0_6) := (blk_cell BK109.out 6).trans rfl
   have hcz6_7 : w3.cell? ⟨gb109, 7, none⟩ = some (.bool a0_7) := (blk_cell BK109.out 7).trans rfl
   have hcz6_8 : w3.cell? ⟨gb109, 8, none⟩ = some (.bool a0_8) := (blk_cell BK109.out 8).trans rfl
   have hcz6_9 : w3.cell? ⟨gb109, 9, none⟩ = some (.bool a0_9) := (blk_cell BK109.out 9).trans rfl
   have hfz6_0 := blk_frozen BK109.out 0
   have hfz6_1 := blk_frozen BK109.out 1
   have hfz6_2 := blk_frozen BK109.out 2
   have hfz6_3 := blk_frozen BK109.out 3
   have hfz6_4 := blk_frozen BK109.out 4
   have hfz6_5 := blk_frozen BK109.out 5
   have hfz6_6 := blk_frozen BK109.out 6
   have hfz6_7 := blk_frozen BK109.out 7
   have hfz6_8 := blk_frozen BK109.out 8
   have hfz6_9 := blk_frozen BK109.out 9
   go_wp2
   go_meet
   case rel => exact ⟨_, (decide (a0_1 > 4)), (by first | rfl | (simp; done) | (simp [*]; done)), H', ⟨by first | omega | exact Nat.le_refl _⟩, ⟨bk BK109.out⟩, ⟨bl HB.out⟩⟩
 case rest =>
  clear HC2
  try clear c1
  try clear p2
  try clear c4
  try clear c4b0
  try clear c4b2
  try clear hcz5_0
  try clear hcz5_1
  try clear hcz5_2
  try clear hcz5_3
  try clear hcz5_4
  try clear hcz5_5
  try clear hcz5_6
  try clear hcz5_7
  try clear hcz5_8
  try clear hcz5_9
  try clear hcz6_0
  try clear hcz6_1
  try clear hcz6_2
  try clear hcz6_3
  try clear hcz6_4
  try clear hcz6_5
  try clear hcz6_6
  try clear hcz6_7
  try clear hcz6_8
  try clear hcz6_9
  try clear hfz5_0
  try clear hfz5_1
  try clear hfz5_2
  try clear hfz5_3
  try clear hfz5_4
  try clear hfz5_5
  try clear hfz5_6
  try clear hfz5_7
  try clear hfz5_8
  try clear hfz5_9
  try clear hfz6_0
  try clear hfz6_1
  try clear hfz6_2
  try clear hfz6_3
  try clear hfz6_4
  try clear hfz6_5
  try clear hfz6_6
  try clear hfz6_7
  try clear hfz6_8
  try clear hfz6_9
  obtain ⟨kq, x11_1, rfl, HA, HJ1, BK109, HB⟩ := hcut
  cases kq with
  | zero => exact absurd HA.out (by simp [cellref_Check.j0])
  | succ kj1 =>
   have H := HA.out
   clear HA
   simp only [cellref_Check.j0] at H
   by_cases c7 : x11_1 = true
   ·subst c7
    have H1 : (some 8) = some r := by rw [if_pos rfl] at H; exact H
    clear H
    have H := H1
    clear H1
    obtain rfl := Option.some.inj H
    go_wp2
    go_ret
    exact ⟨by first | rfl | (simp [errW_none, errW_some] <;> rfl) | (simp [*, errW_none, errW_some] <;> rfl), bl HB.out⟩
   ·replace c7 := Bool.eq_false_iff.mpr c7
    subst c7
    have H1 : ((cellref_name.f kj1 a0_0).bind fun t110 => (if t110 = 0 then ((cellref_meaning.f a0_0 a0_1 a0_2 a0_3 a0_4 a0_5 a0_6 a0_7 a0_8 a0_9).bind fun bt111 => (if (!(a0_0.toList == bt111.1.toList) || (!(a0_1 == bt111.2.1) || (!(a0_2 == bt111.2.2.1) || (!(a0_3 == bt111.2.2.2.1) || (!(a0_4 == bt111.2.2.2.2.1) || (!(a0_5 == bt111.2.2.2.2.2.1) || (!(a0_6 == bt111.2.2.2.2.2.2.1) || (!(a0_7 == bt111.2.2.2.2.2.2.2.1) || (!(a0_8 == bt111.2.2.2.2.2.2.2.2.1) || (!(a0_9 == bt111.2.2.2.2.2.2.2.2.2))))))))))) = true then (some 4) else ((cellref_permitted.f a0_2).bind fun t121 => (if t121 = true then ((cellref_permitted.f a0_3).bind fun t122 => (if t122 = true then ((cellref_permitted.f a0_4).bind fun t123 => (if t123 = true then ((cellref_permitted.f a0_5).bind fun t124 => (cellref_Check.j1 kj1 (!t124) a0_0 a0_1 a0_2 a0_3 a0_4 a0_5 a0_6 a0_7 a0_8 a0_9)) else (cellref_Check.j1 kj1 true a0_0 a0_1 a0_2 a0_3 a0_4 a0_5 a0_6 a0_7 a0_8 a0_9))) else (cellref_Check.j1 kj1 true a0_0 a0_1 a0_2 a0_3 a0_4 a0_5 a0_6 a0_7 a0_8 a0_9))) else (cellref_Check.j1 kj1 true a0_0 a0_1 a0_2 a0_3 a0_4 a0_5 a0_6 a0_7 a0_8 a0_9))))) else (some t110))) = some r := by rw [if_neg (show ¬ (false = true) by decide)] at H; exact H
    clear H
    have H := H1
    clear H1
    replace H := Option.bind_eq_some_iff.mp H
    obtain ⟨t110, A80, H⟩ := H
    replace H : (if t110 = 0 then ((cellref_meaning.f a0_0 a0_1 a0_2 a0_3 a0_4 a0_5 a0_6 a0_7 a0_8 a0_9).bind fun bt111 => (if (!(a0_0.toList == bt111.1.toList) || (!(a0_1 == bt111.2.1) || (!(a0_2 == bt111.2.2.1) || (!(a0_3 == bt111.2.2.2.1) || (!(a0_4 == bt111.2.2.2.2.1) || (!(a0_5 == bt111.2.2.2.2.2.1) || (!(a0_6 == bt111.2.2.2.2.2.2.1) || (!(a0_7 == bt111.2.2.2.2.2.2.2.1) || (!(a0_8 == bt111.2.2.2.2.2.2.2.2.1) || (!(a0_9 == bt111.2.2.2.2.2.2.2.2.2))))))))))) = true then (some 4) else ((cellref_permitted.f a0_2).bind fun t121 => (if t121 = true then ((cellref_permitted.f a0_3).bind fun t122 => (if t122 = true then ((cellref_permitted.f a0_4).bind fun t123 => (if t123 = true then ((cellref_permitted.f a0_5).bind fun t124 => (cellref_Check.j1 kj1 (!t124) a0_0 a0_1 a0_2 a0_3 a0_4 a0_5 a0_6 a0_7 a0_8 a0_9)) else (cellref_Check.j1 kj1 true a0_0 a0_1 a0_2 a0_3 a0_4 a0_5 a0_6 a0_7 a0_8 a0_9))) else (cellref_Check.j1 kj1 true a0_0 a0_1 a0_2 a0_3 a0_4 a0_5 a0_6 a0_7 a0_8 a0_9))) else (cellref_Check.j1 kj1 true a0_0 a0_1 a0_2 a0_3 a0_4 a0_5 a0_6 a0_7 a0_8 a0_9))))) else (some t110)) = some r := H
    have A8 := Aside0.mk A80
    clear A80
    by_cases c9 : t110 = 0
    ·rw [if_pos c9] at H
     have c9b0 : (t110 == 0) = true := beq_iff_eq.mpr c9
     have c9b1 : (t110 != 0) = false := bne_eq_false_iff_eq.mpr c9
     clear c9
     replace H := Option.bind_eq_some_iff.mp H
     obtain ⟨⟨t111, t112, t113, t114, t115, t116, t117, t118, t119, t120⟩, A100, H⟩ := H
     replace H : (if (!(a0_0.toList == t111.toList) || (!(a0_1 == t112) || (!(a0_2 == t113) || (!(a0_3 == t114) || (!(a0_4 == t115) || (!(a0_5 == t116) || (!(a0_6 == t117) || (!(a0_7 == t118) || (!(a0_8 == t119) || (!(a0_9 == t120))))))))))) = true then (some 4) else ((cellref_permitted.f a0_2).bind fun t121 => (if t121 = true then ((cellref_permitted.f a0_3).bind fun t122 => (if t122 = true then ((cellref_permitted.f a0_4).bind fun t123 => (if t123 = true then ((cellref_permitted.f a0_5).bind fun t124 => (cellref_Check.j1 kj1 (!t124) a0_0 a0_1 a0_2 a0_3 a0_4 a0_5 a0_6 a0_7 a0_8 a0_9)) else (cellref_Check.j1 kj1 true a0_0 a0_1 a0_2 a0_3 a0_4 a0_5 a0_6 a0_7 a0_8 a0_9))) else (cellref_Check.j1 kj1 true a0_0 a0_1 a0_2 a0_3 a0_4 a0_5 a0_6 a0_7 a0_8 a0_9))) else (cellref_Check.j1 kj1 true a0_0 a0_1 a0_2 a0_3 a0_4 a0_5 a0_6 a0_7 a0_8 a0_9)))) = some r := H
     have A10 := Aside0.mk A100
     clear A100
     by_cases c11 : (!(a0_0.toList == t111.toList) || (!(a0_1 == t112) || (!(a0_2 == t113) || (!(a0_3 == t114) || (!(a0_4 == t115) || (!(a0_5 == t116) || (!(a0_6 == t117) || (!(a0_7 == t118) || (!(a0_8 == t119) || (!(a0_9 == t120))))))))))) = true
     ·rw [if_pos c11] at H
      have c11b0 : (!(a0_0.toList == t111.toList) || (!(a0_1 == t112) || (!(a0_2 == t113) || (!(a0_3 == t114) || (!(a0_4 == t115) || (!(a0_5 == t116) || (!(a0_6 == t117) || (!(a0_7 == t118) || (!(a0_8 == t119) || (!(a0_9 == t120))))))))))) = true := c11
      clear c11
      obtain rfl := Option.some.inj H
      have hcz12_0 : wc.cell? ⟨gb109, 0, none⟩ = some (.string a0_0) := (blk_cell BK109.out 0).trans rfl
      have hcz12_1 : wc.cell? ⟨gb109, 1, none⟩ = some (.int .i64 a0_1) := (blk_cell BK109.out 1).trans rfl
      have hcz12_2 : wc.cell? ⟨gb109, 2, none⟩ = some (.int .i64 a0_2) := (blk_cell BK109.out 2).trans rfl
      have hcz12_3 : wc.cell? ⟨gb109, 3, none⟩ = some (.int .i64 a0_3) := (blk_cell BK109.out 3).trans rfl
      have hcz12_4 : wc.cell? ⟨gb109, 4, none⟩ = some (.int .i64 a0_4) := (blk_cell BK109.out 4).trans rfl
      have hcz12_5 : wc.cell? ⟨gb109, 5, none⟩ = some (.int .i64 a0_5) := (blk_cell BK109.out 5).trans rfl
      have hcz12_6 : wc.cell? ⟨gb109, 6, none⟩ = some (.bool a0_6) := (blk_cell BK109.out 6).trans rfl
      have hcz12_7 : wc.cell? ⟨gb109, 7, none⟩ = some (.bool a0_7) := (blk_cell BK109.out 7).trans rfl
      have hcz12_8 : wc.cell? ⟨gb109, 8, none⟩ = some (.bool a0_8) := (blk_cell BK109.out 8).trans rfl
      have hcz12_9 : wc.cell? ⟨gb109, 9, none⟩ = some (.bool a0_9) := (blk_cell BK109.out 9).trans rfl
      have hfz12_0 := blk_frozen BK109.out 0
      have hfz12_1 := blk_frozen BK109.out 1
      have hfz12_2 := blk_frozen BK109.out 2
      have hfz12_3 := blk_frozen BK109.out 3
      have hfz12_4 := blk_frozen BK109.out 4
      have hfz12_5 := blk_frozen BK109.out 5
      have hfz12_6 := blk_frozen BK109.out 6
      have hfz12_7 := blk_frozen BK109.out 7
      have hfz12_8 := blk_frozen BK109.out 8
      have hfz12_9 := blk_frozen BK109.out 9
      try go_wp2_with (first | ((with_reducible refine gate_callee (f := 45) rfl ?_); refine goesL_ (some 14) rfl rfl Tryd.func45 (by kernel_rfl) rfl #[.string a0_0] rfl (by (try simp only [List.map_toArray, List.map_cons, List.map_nil]); first | done | rfl | (simp only [List.length_drop, List.length_take]; rfl)) ?_; (with_reducible refine (cellref_name.calls kj1 a0_0 t110 _ ?side1 A8.out).mono ?_); (case side1 => first | exact hGl | exact gl_below hGl (bl HB.out)); rintro e w' ⟨rfl, ⟨nd, rfl⟩⟩; refine ⟨_, rfl, ?_⟩))
      (try (rw [drewN_self wc]; generalize hq_ : World.drewN wc _ = wc; have n0_ : Aside0 (wc.heap[gb109]? = some (.cells #[.string a0_0, .int .i64 a0_1, .int .i64 a0_2, .int .i64 a0_3, .int .i64 a0_4, .int .i64 a0_5, .bool a0_6, .bool a0_7, .bool a0_8, .bool a0_9] 44 (0, 0))) := ⟨by rw [← hq_]; exact (bk BK109.out)⟩; have n1_ : Aside0 (Below w.heap.size w wc) := ⟨by rw [← hq_]; exact (bl HB.out)⟩; clear BK109 HB hq_; have BK109 := n0_; have HB := n1_; clear n0_ n1_))
      have n0_ := Aside0.mk (blk_drew BK109.out)
      have n1_ := Aside0.mk (below_drew1 HB.out)
      clear BK109
      clear HB
      have BK109 := n0_
      have HB := n1_
      clear n0_ n1_
      refine start_ (n := 4) (S := fun w' => w'.cell? ⟨gb109, 0, none⟩ = some (.string a0_0) ∧ w'.cell? ⟨gb109, 1, none⟩ = some (.int .i64 a0_1) ∧ w'.cell? ⟨gb109, 2, none⟩ = some (.int .i64 a0_2) ∧ w'.cell? ⟨gb109, 3, none⟩ = some (.int .i64 a0_3) ∧ w'.cell? ⟨gb109, 4, none⟩ = some (.int .i64 a0_4) ∧ w'.cell? ⟨gb109, 5, none⟩ = some (.int .i64 a0_5) ∧ w'.cell? ⟨gb109, 6, none⟩ = some (.bool a0_6) ∧ w'.cell? ⟨gb109, 7, none⟩ = some (.bool a0_7) ∧ w'.cell? ⟨gb109, 8, none⟩ = some (.bool a0_8) ∧ w'.cell? ⟨gb109, 9, none⟩ = some (.bool a0_9)) (ds := []) #[false, false, false, false] (by kernel_rfl) rfl rfl ⟨(blk_cell BK109.out 0).trans rfl, (blk_cell BK109.out 1).trans rfl, (blk_cell BK109.out 2).trans rfl, (blk_cell BK109.out 3).trans rfl, (blk_cell BK109.out 4).trans rfl, (blk_cell BK109.out 5).trans rfl, (blk_cell BK109.out 6).trans rfl, (blk_cell BK109.out 7).trans rfl, (blk_cell BK109.out 8).trans rfl, (blk_cell BK109.out 9).trans rfl⟩ (fun hHeld => ?_)
      generalize wc.drew = w13 at BK109 HB hHeld ⊢
      refine take_ (i := 0) (N := some 18) (v := ?_) (a' := ?_) #[true, false, false, false] rfl rfl (by kernel_rfl) (fun _ _ _ h => h) (Or.inl ⟨by rfl, ?_⟩) hHeld ?_ ?_
      rotate_left
      ·rintro w' ⟨s0, s1, s2, s3, s4, s5, s6, s7, s8, s9⟩
       go_simp
       with_reducible rfl
      rotate_left
      ·simp only [Act.put, List.setIfInBounds_toArray, List.set_cons_zero, List.set_cons_succ, i64_w, i32_w]
       rfl
      refine take_ (i := 1) (N := some 19) (v := ?_) (a' := ?_) #[true, true, false, false] rfl rfl (by kernel_rfl) (fun _ _ _ h => h) (Or.inl ⟨by rfl, ?_⟩) hHeld ?_ ?_
      rotate_left
      ·rintro w' ⟨s0, s1, s2, s3, s4, s5, s6, s7, s8, s9⟩
       go_simp
       with_reducible rfl
      rotate_left
      ·simp only [Act.put, List.setIfInBounds_toArray, List.set_cons_zero, List.set_cons_succ, i64_w, i32_w]
       rfl
      refine one_ (i := 2) (N := some 20) #[true, true, true, false] rfl rfl (by kernel_rfl) (by decide) (fun K hK => ?_)
      refine goes_ Tryd.func46 (by kernel_rfl) rfl #[.agg #[.string a0_0, .int .i64 a0_1, .int .i64 a0_2, .int .i64 a0_3, .int .i64 a0_4, .int .i64 a0_5, .bool a0_6, .bool a0_7, .bool a0_8, .bool a0_9]] (by rfl) rfl rfl (by (try simp only [List.map_toArray, List.map_cons, List.map_nil]); first | done | rfl | (simp only [List.length_drop, List.length_take]; rfl)) ?_
      with_reducible refine (cellref_meaning.calls a0_0 a0_1 a0_2 a0_3 a0_4 a0_5 a0_6 a0_7 a0_8 a0_9 t111 t112 t113 t114 t115 t116 t117 t118 t119 t120 _ ?side1 A10.out).mono ?_
      (case side1 => first | exact hGl | exact gl_below hGl (bl HB.out))
      rintro e w14 ⟨rfl, hb⟩
      refine ⟨_, rfl, ?_⟩
      have n0_ := Aside0.mk (blk_below (bk BK109.out) hb)
      have n1_ := Aside0.mk (below_step (bl HB.out) hb)
      clear BK109
      clear HB
      have BK109 := n0_
      have HB := n1_
      clear n0_ n1_
      (try clear hb)
      (try clear hb2)
      (try clear hk)
      (try clear hi)
      refine hK.out _ _ ⟨(blk_cell BK109.out 0).trans rfl, (blk_cell BK109.out 1).trans rfl, (blk_cell BK109.out 2).trans rfl, (blk_cell BK109.out 3).trans rfl, (blk_cell BK109.out 4).trans rfl, (blk_cell BK109.out 5).trans rfl, (blk_cell BK109.out 6).trans rfl, (blk_cell BK109.out 7).trans rfl, (blk_cell BK109.out 8).trans rfl, (blk_cell BK109.out 9).trans rfl⟩ (fun hHeld => ?_)
      clear hK K
      refine norm_ (a' := ?_) ?_ ?_
      rotate_left
      ·show Act.put _ (some 20) _ = _
       simp only [Act.put, List.setIfInBounds_toArray, List.set_cons_zero, List.set_cons_succ, i64_w, i32_w]
       rfl
      refine pure_ (i := 3) (N := some 21) (v := ?_) (a' := ?_) #[true, true, true, true] rfl rfl (by kernel_rfl) (fun _ _ _ h => h) (Or.inl ⟨by rfl, ?_⟩) ?_ ?_
      rotate_left
      ·intro w'
       go_simp
       with_reducible rfl
      rotate_left
      ·simp only [Act.put, List.setIfInBounds_toArray, List.set_cons_zero, List.set_cons_succ, i64_w, i32_w]
       rfl
      refine done_ (by kernel_rfl) ?_
      try go_wp2
      go_ret
      exact ⟨by first | rfl | (simp [errW_none, errW_some] <;> rfl) | (simp [*, errW_none, errW_some] <;> rfl), bl HB.out⟩
     ·rw [if_neg c11] at H
      have c11b0 : (!(a0_0.toList == t111.toList) || (!(a0_1 == t112) || (!(a0_2 == t113) || (!(a0_3 == t114) || (!(a0_4 == t115) || (!(a0_5 == t116) || (!(a0_6 == t117) || (!(a0_7 == t118) || (!(a0_8 == t119) || (!(a0_9 == t120))))))))))) = false := by simpa using c11
      clear c11
      have HC15 := Aside0.mk H
      clear H
      have hcz16_0 : wc.cell? ⟨gb109, 0, none⟩ = some (.string a0_0) := (blk_cell BK109.out 0).trans rfl
      have hcz16_1 : wc.cell? ⟨gb109, 1, none⟩ = some (.int .i64 a0_1) := (blk_cell BK109.out 1).trans rfl
      have hcz16_2 : wc.cell? ⟨gb109, 2, none⟩ = some (.int .i64 a0_2) := (blk_cell BK109.out 2).trans rfl
      have hcz16_3 : wc.cell? ⟨gb109, 3, none⟩ = some (.int .i64 a0_3) := (blk_cell BK109.out 3).trans rfl
      have hcz16_4 : wc.cell? ⟨gb109, 4, none⟩ = some (.int .i64 a0_4) := (blk_cell BK109.out 4).trans rfl
      have hcz16_5 : wc.cell? ⟨gb109, 5, none⟩ = some (.int .i64 a0_5) := (blk_cell BK109.out 5).trans rfl
      have hcz16_6 : wc.cell? ⟨gb109, 6, none⟩ = some (.bool a0_6) := (blk_cell BK109.out 6).trans rfl
      have hcz16_7 : wc.cell? ⟨gb109, 7, none⟩ = some (.bool a0_7) := (blk_cell BK109.out 7).trans rfl
      have hcz16_8 : wc.cell? ⟨gb109, 8, none⟩ = some (.bool a0_8) := (blk_cell BK109.out 8).trans rfl
      have hcz16_9 : wc.cell? ⟨gb109, 9, none⟩ = some (.bool a0_9) := (blk_cell BK109.out 9).trans rfl
      have hfz16_0 := blk_frozen BK109.out 0
      have hfz16_1 := blk_frozen BK109.out 1
      have hfz16_2 := blk_frozen BK109.out 2
      have hfz16_3 := blk_frozen BK109.out 3
      have hfz16_4 := blk_frozen BK109.out 4
      have hfz16_5 := blk_frozen BK109.out 5
      have hfz16_6 := blk_frozen BK109.out 6
      have hfz16_7 := blk_frozen BK109.out 7
      have hfz16_8 := blk_frozen BK109.out 8
      have hfz16_9 := blk_frozen BK109.out 9
      try go_wp2_with (first | ((with_reducible refine gate_callee (f := 45) rfl ?_); refine goesL_ (some 14) rfl rfl Tryd.func45 (by kernel_rfl) rfl #[.string a0_0] rfl (by (try simp only [List.map_toArray, List.map_cons, List.map_nil]); first | done | rfl | (simp only [List.length_drop, List.length_take]; rfl)) ?_; (with_reducible refine (cellref_name.calls kj1 a0_0 t110 _ ?side1 A8.out).mono ?_); (case side1 => first | exact hGl | exact gl_below hGl (bl HB.out)); rintro e w' ⟨rfl, ⟨nd, rfl⟩⟩; refine ⟨_, rfl, ?_⟩))
      (try (rw [drewN_self wc]; generalize hq_ : World.drewN wc _ = wc; have n0_ : Aside0 (wc.heap[gb109]? = some (.cells #[.string a0_0, .int .i64 a0_1, .int .i64 a0_2, .int .i64 a0_3, .int .i64 a0_4, .int .i64 a0_5, .bool a0_6, .bool a0_7, .bool a0_8, .bool a0_9] 44 (0, 0))) := ⟨by rw [← hq_]; exact (bk BK109.out)⟩; have n1_ : Aside0 (Below w.heap.size w wc) := ⟨by rw [← hq_]; exact (bl HB.out)⟩; clear BK109 HB hq_; have BK109 := n0_; have HB := n1_; clear n0_ n1_))
      have n0_ := Aside0.mk (blk_drew BK109.out)
      have n1_ := Aside0.mk (below_drew1 HB.out)
      clear BK109
      clear HB
      have BK109 := n0_
      have HB := n1_
      clear n0_ n1_
      refine start_ (n := 4) (S := fun w' => w'.cell? ⟨gb109, 0, none⟩ = some (.string a0_0) ∧ w'.cell? ⟨gb109, 1, none⟩ = some (.int .i64 a0_1) ∧ w'.cell? ⟨gb109, 2, none⟩ = some (.int .i64 a0_2) ∧ w'.cell? ⟨gb109, 3, none⟩ = some (.int .i64 a0_3) ∧ w'.cell? ⟨gb109, 4, none⟩ = some (.int .i64 a0_4) ∧ w'.cell? ⟨gb109, 5, none⟩ = some (.int .i64 a0_5) ∧ w'.cell? ⟨gb109, 6, none⟩ = some (.bool a0_6) ∧ w'.cell? ⟨gb109, 7, none⟩ = some (.bool a0_7) ∧ w'.cell? ⟨gb109, 8, none⟩ = some (.bool a0_8) ∧ w'.cell? ⟨gb109, 9, none⟩ = some (.bool a0_9)) (ds := []) #[false, false, false, false] (by kernel_rfl) rfl rfl ⟨(blk_cell BK109.out 0).trans rfl, (blk_cell BK109.out 1).trans rfl, (blk_cell BK109.out 2).trans rfl, (blk_cell BK109.out 3).trans rfl, (blk_cell BK109.out 4).trans rfl, (blk_cell BK109.out 5).trans rfl, (blk_cell BK109.out 6).trans rfl, (blk_cell BK109.out 7).trans rfl, (blk_cell BK109.out 8).trans rfl, (blk_cell BK109.out 9).trans rfl⟩ (fun hHeld => ?_)
      generalize wc.drew = w17 at BK109 HB hHeld ⊢
      refine take_ (i := 0) (N := some 18) (v := ?_) (a' := ?_) #[true, false, false, false] rfl rfl (by kernel_rfl) (fun _ _ _ h => h) (Or.inl ⟨by rfl, ?_⟩) hHeld ?_ ?_
      rotate_left
      ·rintro w' ⟨s0, s1, s2, s3, s4, s5, s6, s7, s8, s9⟩
       go_simp
       with_reducible rfl
      rotate_left
      ·simp only [Act.put, List.setIfInBounds_toArray, List.set_cons_zero, List.set_cons_succ, i64_w, i32_w]
       rfl
      refine take_ (i := 1) (N := some 19) (v := ?_) (a' := ?_) #[true, true, false, false] rfl rfl (by kernel_rfl) (fun _ _ _ h => h) (Or.inl ⟨by rfl, ?_⟩) hHeld ?_ ?_
      rotate_left
      ·rintro w' ⟨s0, s1, s2, s3, s4, s5, s6, s7, s8, s9⟩
       go_simp
       with_reducible rfl
      rotate_left
      ·simp only [Act.put, List.setIfInBounds_toArray, List.set_cons_zero, List.set_cons_succ, i64_w, i32_w]
       rfl
      refine one_ (i := 2) (N := some 20) #[true, true, true, false] rfl rfl (by kernel_rfl) (by decide) (fun K hK => ?_)
      refine goes_ Tryd.func46 (by kernel_rfl) rfl #[.agg #[.string a0_0, .int .i64 a0_1, .int .i64 a0_2, .int .i64 a0_3, .int .i64 a0_4, .int .i64 a0_5, .bool a0_6, .bool a0_7, .bool a0_8, .bool a0_9]] (by rfl) rfl rfl (by (try simp only [List.map_toArray, List.map_cons, List.map_nil]); first | done | rfl | (simp only [List.length_drop, List.length_take]; rfl)) ?_
      with_reducible refine (cellref_meaning.calls a0_0 a0_1 a0_2 a0_3 a0_4 a0_5 a0_6 a0_7 a0_8 a0_9 t111 t112 t113 t114 t115 t116 t117 t118 t119 t120 _ ?side1 A10.out).mono ?_
      (case side1 => first | exact hGl | exact gl_below hGl (bl HB.out))
      rintro e w18 ⟨rfl, hb⟩
      refine ⟨_, rfl, ?_⟩
      have n0_ := Aside0.mk (blk_below (bk BK109.out) hb)
      have n1_ := Aside0.mk (below_step (bl HB.out) hb)
      clear BK109
      clear HB
      have BK109 := n0_
      have HB := n1_
      clear n0_ n1_
      (try clear hb)
      (try clear hb2)
      (try clear hk)
      (try clear hi)
      refine hK.out _ _ ⟨(blk_cell BK109.out 0).trans rfl, (blk_cell BK109.out 1).trans rfl, (blk_cell BK109.out 2).trans rfl, (blk_cell BK109.out 3).trans rfl, (blk_cell BK109.out 4).trans rfl, (blk_cell BK109.out 5).trans rfl, (blk_cell BK109.out 6).trans rfl, (blk_cell BK109.out 7).trans rfl, (blk_cell BK109.out 8).trans rfl, (blk_cell BK109.out 9).trans rfl⟩ (fun hHeld => ?_)
      clear hK K
      refine norm_ (a' := ?_) ?_ ?_
      rotate_left
      ·show Act.put _ (some 20) _ = _
       simp only [Act.put, List.setIfInBounds_toArray, List.set_cons_zero, List.set_cons_succ, i64_w, i32_w]
       rfl
      refine pure_ (i := 3) (N := some 21) (v := ?_) (a' := ?_) #[true, true, true, true] rfl rfl (by kernel_rfl) (fun _ _ _ h => h) (Or.inl ⟨by rfl, ?_⟩) ?_ ?_
      rotate_left
      ·intro w'
       go_simp
       with_reducible rfl
      rotate_left
      ·simp only [Act.put, List.setIfInBounds_toArray, List.set_cons_zero, List.set_cons_succ, i64_w, i32_w]
       rfl
      refine done_ (by kernel_rfl) ?_
      go_upto_region 8 with (fail)
      go_cut [43] (fun v43 wc => ∃ (kq : Nat) (x43_14 : Bool), v43 = .bool x43_14 ∧ Aside0 (cellref_Check.j1 kq x43_14 a0_0 a0_1 a0_2 a0_3 a0_4 a0_5 a0_6 a0_7 a0_8 a0_9 = some r) ∧ Aside0 (kq ≤ kj1) ∧ Aside0 (wc.heap[gb109]? = some (.cells #[.string a0_0, .int .i64 a0_1, .int .i64 a0_2, .int .i64 a0_3, .int .i64 a0_4, .int .i64 a0_5, .bool a0_6, .bool a0_7, .bool a0_8, .bool a0_9] 44 (0, 0))) ∧ Aside0 (Below w.heap.size w wc))
      case first =>
       have H := HC15.out
       clear HC15
       replace H := Option.bind_eq_some_iff.mp H
       obtain ⟨t121, A190, H⟩ := H
       replace H : (if t121 = true then ((cellref_permitted.f a0_3).bind fun t122 => (if t122 = true then ((cellref_permitted.f a0_4).bind fun t123 => (if t123 = true then ((cellref_permitted.f a0_5).bind fun t124 => (cellref_Check.j1 kj1 (!t124) a0_0 a0_1 a0_2 a0_3 a0_4 a0_5 a0_6 a0_7 a0_8 a0_9)) else (cellref_Check.j1 kj1 true a0_0 a0_1 a0_2 a0_3 a0_4 a0_5 a0_6 a0_7 a0_8 a0_9))) else (cellref_Check.j1 kj1 true a0_0 a0_1 a0_2 a0_3 a0_4 a0_5 a0_6 a0_7 a0_8 a0_9))) else (cellref_Check.j1 kj1 true a0_0 a0_1 a0_2 a0_3 a0_4 a0_5 a0_6 a0_7 a0_8 a0_9)) = some r := H
       have A19 := Aside0.mk A190
       clear A190
       by_cases c20 : t121 = true
       ·subst c20
        have H1 : ((cellref_permitted.f a0_3).bind fun t122 => (if t122 = true then ((cellref_permitted.f a0_4).bind fun t123 => (if t123 = true then ((cellref_permitted.f a0_5).bind fun t124 => (cellref_Check.j1 kj1 (!t124) a0_0 a0_1 a0_2 a0_3 a0_4 a0_5 a0_6 a0_7 a0_8 a0_9)) else (cellref_Check.j1 kj1 true a0_0 a0_1 a0_2 a0_3 a0_4 a0_5 a0_6 a0_7 a0_8 a0_9))) else (cellref_Check.j1 kj1 true a0_0 a0_1 a0_2 a0_3 a0_4 a0_5 a0_6 a0_7 a0_8 a0_9))) = some r := by rw [if_pos rfl] at H; exact H
        clear H
        have H := H1
        clear H1
        replace H := Option.bind_eq_some_iff.mp H
        obtain ⟨t122, A210, H⟩ := H
        replace H : (if t122 = true then ((cellref_permitted.f a0_4).bind fun t123 => (if t123 = true then ((cellref_permitted.f a0_5).bind fun t124 => (cellref_Check.j1 kj1 (!t124) a0_0 a0_1 a0_2 a0_3 a0_4 a0_5 a0_6 a0_7 a0_8 a0_9)) else (cellref_Check.j1 kj1 true a0_0 a0_1 a0_2 a0_3 a0_4 a0_5 a0_6 a0_7 a0_8 a0_9))) else (cellref_Check.j1 kj1 true a0_0 a0_1 a0_2 a0_3 a0_4 a0_5 a0_6 a0_7 a0_8 a0_9)) = some r := H
        have A21 := Aside0.mk A210
        clear A210
        by_cases c22 : t122 = true
        ·subst c22
         have H1 : ((cellref_permitted.f a0_4).bind fun t123 => (if t123 = true then ((cellref_permitted.f a0_5).bind fun t124 => (cellref_Check.j1 kj1 (!t124) a0_0 a0_1 a0_2 a0_3 a0_4 a0_5 a0_6 a0_7 a0_8 a0_9)) else (cellref_Check.j1 kj1 true a0_0 a0_1 a0_2 a0_3 a0_4 a0_5 a0_6 a0_7 a0_8 a0_9))) = some r := by rw [if_pos rfl] at H; exact H
         clear H
         have H := H1
         clear H1
         replace H := Option.bind_eq_some_iff.mp H
         obtain ⟨t123, A230, H⟩ := H
         replace H : (if t123 = true then ((cellref_permitted.f a0_5).bind fun t124 => (cellref_Check.j1 kj1 (!t124) a0_0 a0_1 a0_2 a0_3 a0_4 a0_5 a0_6 a0_7 a0_8 a0_9)) else (cellref_Check.j1 kj1 true a0_0 a0_1 a0_2 a0_3 a0_4 a0_5 a0_6 a0_7 a0_8 a0_9)) = some r := H
         have A23 := Aside0.mk A230
         clear A230
         by_cases c24 : t123 = true
         ·subst c24
          have H1 : ((cellref_permitted.f a0_5).bind fun t124 => (cellref_Check.j1 kj1 (!t124) a0_0 a0_1 a0_2 a0_3 a0_4 a0_5 a0_6 a0_7 a0_8 a0_9)) = some r := by rw [if_pos rfl] at H; exact H
          clear H
          have H := H1
          clear H1
          replace H := Option.bind_eq_some_iff.mp H
          obtain ⟨t124, A250, H⟩ := H
          replace H : (cellref_Check.j1 kj1 (!t124) a0_0 a0_1 a0_2 a0_3 a0_4 a0_5 a0_6 a0_7 a0_8 a0_9) = some r := H
          have A25 := Aside0.mk A250
          clear A250
          have H' := Aside0.mk H
          clear H
          have hcz26_0 : w18.cell? ⟨gb109, 0, none⟩ = some (.string a0_0) := (blk_cell BK109.out 0).trans rfl
          have hcz26_1 : w18.cell? ⟨gb109, 1, none⟩ = some (.int .i64 a0_1) := (blk_cell BK109.out 1).trans rfl
          have hcz26_2 : w18.cell? ⟨gb109, 2, none⟩ = some (.int .i64 a0_2) := (blk_cell BK109.out 2).trans rfl
          have hcz26_3 : w18.cell? ⟨gb109, 3, none⟩ = some (.int .i64 a0_3) := (blk_cell BK109.out 3).trans rfl
          have hcz26_4 : w18.cell? ⟨gb109, 4, none⟩ = some (.int .i64 a0_4) := (blk_cell BK109.out 4).trans rfl
          have hcz26_5 : w18.cell? ⟨gb109, 5, none⟩ = some (.int .i64 a0_5) := (blk_cell BK109.out 5).trans rfl
          have hcz26_6 : w18.cell? ⟨gb109, 6, none⟩ = some (.bool a0_6) := (blk_cell BK109.out 6).trans rfl
          have hcz26_7 : w18.cell? ⟨gb109, 7, none⟩ = some (.bool a0_7) := (blk_cell BK109.out 7).trans rfl
          have hcz26_8 : w18.cell? ⟨gb109, 8, none⟩ = some (.bool a0_8) := (blk_cell BK109.out 8).trans rfl
          have hcz26_9 : w18.cell? ⟨gb109, 9, none⟩ = some (.bool a0_9) := (blk_cell BK109.out 9).trans rfl
          have hfz26_0 := blk_frozen BK109.out 0
          have hfz26_1 := blk_frozen BK109.out 1
          have hfz26_2 := blk_frozen BK109.out 2
          have hfz26_3 := blk_frozen BK109.out 3
          have hfz26_4 := blk_frozen BK109.out 4
          have hfz26_5 := blk_frozen BK109.out 5
          have hfz26_6 := blk_frozen BK109.out 6
          have hfz26_7 := blk_frozen BK109.out 7
          have hfz26_8 := blk_frozen BK109.out 8
          have hfz26_9 := blk_frozen BK109.out 9
          go_wp2_with (first | ((with_reducible refine gate_callee (f := 42) rfl ?_); refine goesL_ (some 24) rfl rfl Tryd.func42 (by kernel_rfl) rfl #[.int .i64 a0_2] rfl (by (try simp only [List.map_toArray, List.map_cons, List.map_nil]); first | done | rfl | (simp only [List.length_drop, List.length_take]; rfl)) ?_; (with_reducible refine (cellref_permitted.calls a0_2 true _ ?side1 A19.out).mono ?_); (case side1 => first | exact hGl | exact gl_below hGl (bl HB.out)); rintro e w' ⟨rfl, ⟨nd, rfl⟩⟩; refine ⟨_, rfl, ?_⟩) | (go_at_call 42; (with_reducible refine (cellref_permitted.calls a0_3 true _ ?side1 A21.out).mono ?_); (case side1 => first | exact hGl | exact gl_below hGl (bl HB.out)); rintro e w' ⟨rfl, ⟨nd, rfl⟩⟩) | (go_at_call 42; (with_reducible refine (cellref_permitted.calls a0_4 true _ ?side1 A23.out).mono ?_); (case side1 => first | exact hGl | exact gl_below hGl (bl HB.out)); rintro e w' ⟨rfl, ⟨nd, rfl⟩⟩) | (go_at_call 42; (with_reducible refine (cellref_permitted.calls a0_5 t124 _ ?side1 A25.out).mono ?_); (case side1 => first | exact hGl | exact gl_below hGl (bl HB.out)); rintro e w' ⟨rfl, ⟨nd, rfl⟩⟩))
          go_meet
          case rel => exact ⟨_, (!t124), (by first | rfl | (simp; done) | (simp [*]; done)), H', ⟨by have := HJ1.out; first | omega | exact Nat.le_refl _⟩, ⟨bk BK109.out⟩, ⟨bl HB.out⟩⟩
         ·replace c24 := Bool.eq_false_iff.mpr c24
          subst c24
          have H1 : (cellref_Check.j1 kj1 true a0_0 a0_1 a0_2 a0_3 a0_4 a0_5 a0_6 a0_7 a0_8 a0_9) = some r := by rw [if_neg (show ¬ (false = true) by decide)] at H; exact H
          clear H
          have H := H1
          clear H1
          have H' := Aside0.mk H
          clear H
          have hcz27_0 : w18.cell? ⟨gb109, 0, none⟩ = some (.string a0_0) := (blk_cell BK109.out 0).trans rfl
          have hcz27_1 : w18.cell? ⟨gb109, 1, none⟩ = some (.int .i64 a0_1) := (blk_cell BK109.out 1).trans rfl
          have hcz27_2 : w18.cell? ⟨gb109, 2, none⟩ = some (.int .i64 a0_2) := (blk_cell BK109.out 2).trans rfl
          have hcz27_3 : w18.cell? ⟨gb109, 3, none⟩ = some (.int .i64 a0_3) := (blk_cell BK109.out 3).trans rfl
          have hcz27_4 : w18.cell? ⟨gb109, 4, none⟩ = some (.int .i64 a0_4) := (blk_cell BK109.out 4).trans rfl
          have hcz27_5 : w18.cell? ⟨gb109, 5, none⟩ = some (.int .i64 a0_5) := (blk_cell BK109.out 5).trans rfl
          have hcz27_6 : w18.cell? ⟨gb109, 6, none⟩ = some (.bool a0_6) := (blk_cell BK109.out 6).trans rfl
          have hcz27_7 : w18.cell? ⟨gb109, 7, none⟩ = some (.bool a0_7) := (blk_cell BK109.out 7).trans rfl
          have hcz27_8 : w18.cell? ⟨gb109, 8, none⟩ = some (.bool a0_8) := (blk_cell BK109.out 8).trans rfl
          have hcz27_9 : w18.cell? ⟨gb109, 9, none⟩ = some (.bool a0_9) := (blk_cell BK109.out 9).trans rfl
          have hfz27_0 := blk_frozen BK109.out 0
          have hfz27_1 := blk_frozen BK109.out 1
          have hfz27_2 := blk_frozen BK109.out 2
          have hfz27_3 := blk_frozen BK109.out 3
          have hfz27_4 := blk_frozen BK109.out 4
          have hfz27_5 := blk_frozen BK109.out 5
          have hfz27_6 := blk_frozen BK109.out 6
          have hfz27_7 := blk_frozen BK109.out 7
          have hfz27_8 := blk_frozen BK109.out 8
          have hfz27_9 := blk_frozen BK109.out 9
          go_wp2_with (first | ((with_reducible refine gate_callee (f := 42) rfl ?_); refine goesL_ (some 24) rfl rfl Tryd.func42 (by kernel_rfl) rfl #[.int .i64 a0_2] rfl (by (try simp only [List.map_toArray, List.map_cons, List.map_nil]); first | done | rfl | (simp only [List.length_drop, List.length_take]; rfl)) ?_; (with_reducible refine (cellref_permitted.calls a0_2 true _ ?side1 A19.out).mono ?_); (case side1 => first | exact hGl | exact gl_below hGl (bl HB.out)); rintro e w' ⟨rfl, ⟨nd, rfl⟩⟩; refine ⟨_, rfl, ?_⟩) | (go_at_call 42; (with_reducible refine (cellref_permitted.calls a0_3 true _ ?side1 A21.out).mono ?_); (case side1 => first | exact hGl | exact gl_below hGl (bl HB.out)); rintro e w' ⟨rfl, ⟨nd, rfl⟩⟩) | (go_at_call 42; (with_reducible refine (cellref_permitted.calls a0_4 false _ ?side1 A23.out).mono ?_); (case side1 => first | exact hGl | exact gl_below hGl (bl HB.out)); rintro e w' ⟨rfl, ⟨nd, rfl⟩⟩))
          go_meet
          case rel => exact ⟨_, (true), (by first | rfl | (simp; done) | (simp [*]; done)), H', ⟨by have := HJ1.out; first | omega | exact Nat.le_refl _⟩, ⟨bk BK109.out⟩, ⟨bl HB.out⟩⟩
        ·replace c22 := Bool.eq_false_iff.mpr c22
         subst c22
         have H1 : (cellref_Check.j1 kj1 true a0_0 a0_1 a0_2 a0_3 a0_4 a0_5 a0_6 a0_7 a0_8 a0_9) = some r := by rw [if_neg (show ¬ (false = true) by decide)] at H; exact H
         clear H
         have H := H1
         clear H1
         have H' := Aside0.mk H
         clear H
         have hcz28_0 : w18.cell? ⟨gb109, 0, none⟩ = some (.string a0_0) := (blk_cell BK109.out 0).trans rfl
         have hcz28_1 : w18.cell? ⟨gb109, 1, none⟩ = some (.int .i64 a0_1) := (blk_cell BK109.out 1).trans rfl
         have hcz28_2 : w18.cell? ⟨gb109, 2, none⟩ = some (.int .i64 a0_2) := (blk_cell BK109.out 2).trans rfl
         have hcz28_3 : w18.cell? ⟨gb109, 3, none⟩ = some (.int .i64 a0_3) := (blk_cell BK109.out 3).trans rfl
         have hcz28_4 : w18.cell? ⟨gb109, 4, none⟩ = some (.int .i64 a0_4) := (blk_cell BK109.out 4).trans rfl
         have hcz28_5 : w18.cell? ⟨gb109, 5, none⟩ = some (.int .i64 a0_5) := (blk_cell BK109.out 5).trans rfl
         have hcz28_6 : w18.cell? ⟨gb109, 6, none⟩ = some (.bool a0_6) := (blk_cell BK109.out 6).trans rfl
         have hcz28_7 : w18.cell? ⟨gb109, 7, none⟩ = some (.bool a0_7) := (blk_cell BK109.out 7).trans rfl
         have hcz28_8 : w18.cell? ⟨gb109, 8, none⟩ = some (.bool a0_8) := (blk_cell BK109.out 8).trans rfl
         have hcz28_9 : w18.cell? ⟨gb109, 9, none⟩ = some (.bool a0_9) := (blk_cell BK109.out 9).trans rfl
         have hfz28_0 := blk_frozen BK109.out 0
         have hfz28_1 := blk_frozen BK109.out 1
         have hfz28_2 := blk_frozen BK109.out 2
         have hfz28_3 := blk_frozen BK109.out 3
         have hfz28_4 := blk_frozen BK109.out 4
         have hfz28_5 := blk_frozen BK109.out 5
         have hfz28_6 := blk_frozen BK109.out 6
         have hfz28_7 := blk_frozen BK109.out 7
         have hfz28_8 := blk_frozen BK109.out 8
         have hfz28_9 := blk_frozen BK109.out 9
         go_wp2_with (first | ((with_reducible refine gate_callee (f := 42) rfl ?_); refine goesL_ (some 24) rfl rfl Tryd.func42 (by kernel_rfl) rfl #[.int .i64 a0_2] rfl (by (try simp only [List.map_toArray, List.map_cons, List.map_nil]); first | done | rfl | (simp only [List.length_drop, List.length_take]; rfl)) ?_; (with_reducible refine (cellref_permitted.calls a0_2 true _ ?side1 A19.out).mono ?_); (case side1 => first | exact hGl | exact gl_below hGl (bl HB.out)); rintro e w' ⟨rfl, ⟨nd, rfl⟩⟩; refine ⟨_, rfl, ?_⟩) | (go_at_call 42; (with_reducible refine (cellref_permitted.calls a0_3 false _ ?side1 A21.out).mono ?_); (case side1 => first | exact hGl | exact gl_below hGl (bl HB.out)); rintro e w' ⟨rfl, ⟨nd, rfl⟩⟩))
         go_meet
         case rel => exact ⟨_, (true), (by first | rfl | (simp; done) | (simp [*]; done)), H', ⟨by have := HJ1.out; first | omega | exact Nat.le_refl _⟩, ⟨bk BK109.out⟩, ⟨bl HB.out⟩⟩
       ·replace c20 := Bool.eq_false_iff.mpr c20
        subst c20
        have H1 : (cellref_Check.j1 kj1 true a0_0 a0_1 a0_2 a0_3 a0_4 a0_5 a0_6 a0_7 a0_8 a0_9) = some r := by rw [if_neg (show ¬ (false = true) by decide)] at H; exact H
        clear H
        have H := H1
        clear H1
        have H' := Aside0.mk H
        clear H
        have hcz29_0 : w18.cell? ⟨gb109, 0, none⟩ = some (.string a0_0) := (blk_cell BK109.out 0).trans rfl
        have hcz29_1 : w18.cell? ⟨gb109, 1, none⟩ = some (.int .i64 a0_1) := (blk_cell BK109.out 1).trans rfl
        have hcz29_2 : w18.cell? ⟨gb109, 2, none⟩ = some (.int .i64 a0_2) := (blk_cell BK109.out 2).trans rfl
        have hcz29_3 : w18.cell? ⟨gb109, 3, none⟩ = some (.int .i64 a0_3) := (blk_cell BK109.out 3).trans rfl
        have hcz29_4 : w18.cell? ⟨gb109, 4, none⟩ = some (.int .i64 a0_4) := (blk_cell BK109.out 4).trans rfl
        have hcz29_5 : w18.cell? ⟨gb109, 5, none⟩ = some (.int .i64 a0_5) := (blk_cell BK109.out 5).trans rfl
        have hcz29_6 : w18.cell? ⟨gb109, 6, none⟩ = some (.bool a0_6) := (blk_cell BK109.out 6).trans rfl
        have hcz29_7 : w18.cell? ⟨gb109, 7, none⟩ = some (.bool a0_7) := (blk_cell BK109.out 7).trans rfl
        have hcz29_8 : w18.cell? ⟨gb109, 8, none⟩ = some (.bool a0_8) := (blk_cell BK109.out 8).trans rfl
        have hcz29_9 : w18.cell? ⟨gb109, 9, none⟩ = some (.bool a0_9) := (blk_cell BK109.out 9).trans rfl
        have hfz29_0 := blk_frozen BK109.out 0
        have hfz29_1 := blk_frozen BK109.out 1
        have hfz29_2 := blk_frozen BK109.out 2
        have hfz29_3 := blk_frozen BK109.out 3
        have hfz29_4 := blk_frozen BK109.out 4
        have hfz29_5 := blk_frozen BK109.out 5
        have hfz29_6 := blk_frozen BK109.out 6
        have hfz29_7 := blk_frozen BK109.out 7
        have hfz29_8 := blk_frozen BK109.out 8
        have hfz29_9 := blk_frozen BK109.out 9
        go_wp2_with (first | ((with_reducible refine gate_callee (f := 42) rfl ?_); refine goesL_ (some 24) rfl rfl Tryd.func42 (by kernel_rfl) rfl #[.int .i64 a0_2] rfl (by (try simp only [List.map_toArray, List.map_cons, List.map_nil]); first | done | rfl | (simp only [List.length_drop, List.length_take]; rfl)) ?_; (with_reducible refine (cellref_permitted.calls a0_2 false _ ?side1 A19.out).mono ?_); (case side1 => first | exact hGl | exact gl_below hGl (bl HB.out)); rintro e w' ⟨rfl, ⟨nd, rfl⟩⟩; refine ⟨_, rfl, ?_⟩))
        go_meet
        case rel => exact ⟨_, (true), (by first | rfl | (simp; done) | (simp [*]; done)), H', ⟨by have := HJ1.out; first | omega | exact Nat.le_refl _⟩, ⟨bk BK109.out⟩, ⟨bl HB.out⟩⟩
      case rest =>
       clear HC15
       try clear c1
       try clear c2
       try clear p2
       try clear c4
       try clear c4b0
       try clear c4b2
       try clear c7
       try clear c9
       try clear c9b0
       try clear c9b1
       try clear c11
       try clear c11b0
       try clear c19
       try clear c20
       try clear c22
       try clear c24
       try clear hcz12_0
       try clear hcz12_1
       try clear hcz12_2
       try clear hcz12_3
       try clear hcz12_4
       try clear hcz12_5
       try clear hcz12_6
       try clear hcz12_7
       try clear hcz12_8
       try clear hcz12_9
       try clear hcz16_0
       try clear hcz16_1
       try clear hcz16_2
       try clear hcz16_3
       try clear hcz16_4
       try clear hcz16_5
       try clear hcz16_6
       try clear hcz16_7
       try clear hcz16_8
       try clear hcz16_9
       try clear hcz26_0
       try clear hcz26_1
       try clear hcz26_2
       try clear hcz26_3
       try clear hcz26_4
       try clear hcz26_5
       try clear hcz26_6
       try clear hcz26_7
       try clear hcz26_8
       try clear hcz26_9
       try clear hcz27_0
       try clear hcz27_1
       try clear hcz27_2
       try clear hcz27_3
       try clear hcz27_4
       try clear hcz27_5
       try clear hcz27_6
       try clear hcz27_7
       try clear hcz27_8
       try clear hcz27_9
       try clear hcz28_0
       try clear hcz28_1
       try clear hcz28_2
       try clear hcz28_3
       try clear hcz28_4
       try clear hcz28_5
       try clear hcz28_6
       try clear hcz28_7
       try clear hcz28_8
       try clear hcz28_9
       try clear hcz29_0
       try clear hcz29_1
       try clear hcz29_2
       try clear hcz29_3
       try clear hcz29_4
       try clear hcz29_5
       try clear hcz29_6
       try clear hcz29_7
       try clear hcz29_8
       try clear hcz29_9
       try clear hcz5_0
       try clear hcz5_1
       try clear hcz5_2
       try clear hcz5_3
       try clear hcz5_4
       try clear hcz5_5
       try clear hcz5_6
       try clear hcz5_7
       try clear hcz5_8
       try clear hcz5_9
       try clear hcz6_0
       try clear hcz6_1
       try clear hcz6_2
       try clear hcz6_3
       try clear hcz6_4
       try clear hcz6_5
       try clear hcz6_6
       try clear hcz6_7
       try clear hcz6_8
       try clear hcz6_9
       try clear hfz12_0
       try clear hfz12_1
       try clear hfz12_2
       try clear hfz12_3
       try clear hfz12_4
       try clear hfz12_5
       try clear hfz12_6
       try clear hfz12_7
       try clear hfz12_8
       try clear hfz12_9
       try clear hfz16_0
       try clear hfz16_1
       try clear hfz16_2
       try clear hfz16_3
       try clear hfz16_4
       try clear hfz16_5
       try clear hfz16_6
       try clear hfz16_7
       try clear hfz16_8
       try clear hfz16_9
       try clear hfz26_0
       try clear hfz26_1
       try clear hfz26_2
       try clear hfz26_3
       try clear hfz26_4
       try clear hfz26_5
       try clear hfz26_6
       try clear hfz26_7
       try clear hfz26_8
       try clear hfz26_9
       try clear hfz27_0
       try clear hfz27_1
       try clear hfz27_2
       try clear hfz27_3
       try clear hfz27_4
       try clear hfz27_5
       try clear hfz27_6
       try clear hfz27_7
       try clear hfz27_8
       try clear hfz27_9
       try clear hfz28_0
       try clear hfz28_1
       try clear hfz28_2
       try clear hfz28_3
       try clear hfz28_4
       try clear hfz28_5
       try clear hfz28_6
       try clear hfz28_7
       try clear hfz28_8
       try clear hfz28_9
       try clear hfz29_0
       try clear hfz29_1
       try clear hfz29_2
       try clear hfz29_3
       try clear hfz29_4
       try clear hfz29_5
       try clear hfz29_6
       try clear hfz29_7
       try clear hfz29_8
       try clear hfz29_9
       try clear hfz5_0
       try clear hfz5_1
       try clear hfz5_2
       try clear hfz5_3
       try clear hfz5_4
       try clear hfz5_5
       try clear hfz5_6
       try clear hfz5_7
       try clear hfz5_8
       try clear hfz5_9
       try clear hfz6_0
       try clear hfz6_1
       try clear hfz6_2
       try clear hfz6_3
       try clear hfz6_4
       try clear hfz6_5
       try clear hfz6_6
       try clear hfz6_7
       try clear hfz6_8
       try clear hfz6_9
       try clear p2
       obtain ⟨kq, x43_14, rfl, HA, HJ14, BK109, HB⟩ := hcut
       cases kq with
       | zero => exact absurd HA.out (by simp [cellref_Check.j1])
       | succ kj14 =>
        have H := HA.out
        clear HA
        simp only [cellref_Check.j1] at H
        by_cases c30 : x43_14 = true
        ·subst c30
         have H1 : (some 2) = some r := by rw [if_pos rfl] at H; exact H
         clear H
         have H := H1
         clear H1
         obtain rfl := Option.some.inj H
         go_wp2
         go_ret
         exact ⟨by first | rfl | (simp [errW_none, errW_some] <;> rfl) | (simp [*, errW_none, errW_some] <;> rfl), bl HB.out⟩
        ·replace c30 := Bool.eq_false_iff.mpr c30
         subst c30
         have H1 : (if a0_1 = 0 then (some 0) else (if a0_4 < a0_2 then (some 5) else (if a0_5 < a0_3 then (some 5) else (some 0)))) = some r := by rw [if_neg (show ¬ (false = true) by decide)] at H; exact H
         clear H
         have H := H1
         clear H1
         by_cases c31 : a0_1 = 0
         ·rw [if_pos c31] at H
          have c31b0 : (a0_1 == 0) = true := beq_iff_eq.mpr c31
          have c31b1 : (a0_1 != 0) = false := bne_eq_false_iff_eq.mpr c31
          clear c31
          obtain rfl := Option.some.inj H
          have hcz32_0 : wc.cell? ⟨gb109, 0, none⟩ = some (.string a0_0) := (blk_cell BK109.out 0).trans rfl
          have hcz32_1 : wc.cell? ⟨gb109, 1, none⟩ = some (.int .i64 a0_1) := (blk_cell BK109.out 1).trans rfl
          have hcz32_2 : wc.cell? ⟨gb109, 2, none⟩ = some (.int .i64 a0_2) := (blk_cell BK109.out 2).trans rfl
          have hcz32_3 : wc.cell? ⟨gb109, 3, none⟩ = some (.int .i64 a0_3) := (blk_cell BK109.out 3).trans rfl
          have hcz32_4 : wc.cell? ⟨gb109, 4, none⟩ = some (.int .i64 a0_4) := (blk_cell BK109.out 4).trans rfl
          have hcz32_5 : wc.cell? ⟨gb109, 5, none⟩ = some (.int .i64 a0_5) := (blk_cell BK109.out 5).trans rfl
          have hcz32_6 : wc.cell? ⟨gb109, 6, none⟩ = some (.bool a0_6) := (blk_cell BK109.out 6).trans rfl
          have hcz32_7 : wc.cell? ⟨gb109, 7, none⟩ = some (.bool a0_7) := (blk_cell BK109.out 7).trans rfl
          have hcz32_8 : wc.cell? ⟨gb109, 8, none⟩ = some (.bool a0_8) := (blk_cell BK109.out 8).trans rfl
          have hcz32_9 : wc.cell? ⟨gb109, 9, none⟩ = some (.bool a0_9) := (blk_cell BK109.out 9).trans rfl
          have hfz32_0 := blk_frozen BK109.out 0
          have hfz32_1 := blk_frozen BK109.out 1
          have hfz32_2 := blk_frozen BK109.out 2
          have hfz32_3 := blk_frozen BK109.out 3
          have hfz32_4 := blk_frozen BK109.out 4
          have hfz32_5 := blk_frozen BK109.out 5
          have hfz32_6 := blk_frozen BK109.out 6
          have hfz32_7 := blk_frozen BK109.out 7
          have hfz32_8 := blk_frozen BK109.out 8
          have hfz32_9 := blk_frozen BK109.out 9
          go_wp2
          go_ret
          exact ⟨by first | rfl | (simp [errW_none, errW_some] <;> rfl) | (simp [*, errW_none, errW_some] <;> rfl), bl HB.out⟩
         ·rw [if_neg c31] at H
          have c31b0 : (a0_1 == 0) = false := beq_eq_false_iff_ne.mpr c31
          have c31b1 : (a0_1 != 0) = true := bne_iff_ne.mpr c31
          by_cases c33 : a0_4 < a0_2
          ·rw [if_pos c33] at H
           have c33b0 : decide (a0_4 < a0_2) = true := decide_eq_true c33
           clear c33
           obtain rfl := Option.some.inj H
           have hcz34_0 : wc.cell? ⟨gb109, 0, none⟩ = some (.string a0_0) := (blk_cell BK109.out 0).trans rfl
           have hcz34_1 : wc.cell? ⟨gb109, 1, none⟩ = some (.int .i64 a0_1) := (blk_cell BK109.out 1).trans rfl
           have hcz34_2 : wc.cell? ⟨gb109, 2, none⟩ = some (.int .i64 a0_2) := (blk_cell BK109.out 2).trans rfl
           have hcz34_3 : wc.cell? ⟨gb109, 3, none⟩ = some (.int .i64 a0_3) := (blk_cell BK109.out 3).trans rfl
           have hcz34_4 : wc.cell? ⟨gb109, 4, none⟩ = some (.int .i64 a0_4) := (blk_cell BK109.out 4).trans rfl
           have hcz34_5 : wc.cell? ⟨gb109, 5, none⟩ = some (.int .i64 a0_5) := (blk_cell BK109.out 5).trans rfl
           have hcz34_6 : wc.cell? ⟨gb109, 6, none⟩ = some (.bool a0_6) := (blk_cell BK109.out 6).trans rfl
           have hcz34_7 : wc.cell? ⟨gb109, 7, none⟩ = some (.bool a0_7) := (blk_cell BK109.out 7).trans rfl
           have hcz34_8 : wc.cell? ⟨gb109, 8, none⟩ = some (.bool a0_8) := (blk_cell BK109.out 8).trans rfl
           have hcz34_9 : wc.cell? ⟨gb109, 9, none⟩ = some (.bool a0_9) := (blk_cell BK109.out 9).trans rfl
           have hfz34_0 := blk_frozen BK109.out 0
           have hfz34_1 := blk_frozen BK109.out 1
           have hfz34_2 := blk_frozen BK109.out 2
           have hfz34_3 := blk_frozen BK109.out 3
           have hfz34_4 := blk_frozen BK109.out 4
           have hfz34_5 := blk_frozen BK109.out 5
           have hfz34_6 := blk_frozen BK109.out 6
           have hfz34_7 := blk_frozen BK109.out 7
           have hfz34_8 := blk_frozen BK109.out 8
           have hfz34_9 := blk_frozen BK109.out 9
           go_wp2
           go_ret
           exact ⟨by first | rfl | (simp [errW_none, errW_some] <;> rfl) | (simp [*, errW_none, errW_some] <;> rfl), bl HB.out⟩
          ·rw [if_neg c33] at H
           have c33b0 : decide (a0_4 < a0_2) = false := decide_eq_false c33
           clear c33
           by_cases c35 : a0_5 < a0_3
           ·rw [if_pos c35] at H
            have c35b0 : decide (a0_5 < a0_3) = true := decide_eq_true c35
            clear c35
            obtain rfl := Option.some.inj H
            have hcz36_0 : wc.cell? ⟨gb109, 0, none⟩ = some (.string a0_0) := (blk_cell BK109.out 0).trans rfl
            have hcz36_1 : wc.cell? ⟨gb109, 1, none⟩ = some (.int .i64 a0_1) := (blk_cell BK109.out 1).trans rfl
            have hcz36_2 : wc.cell? ⟨gb109, 2, none⟩ = some (.int .i64 a0_2) := (blk_cell BK109.out 2).trans rfl
            have hcz36_3 : wc.cell? ⟨gb109, 3, none⟩ = some (.int .i64 a0_3) := (blk_cell BK109.out 3).trans rfl
            have hcz36_4 : wc.cell? ⟨gb109, 4, none⟩ = some (.int .i64 a0_4) := (blk_cell BK109.out 4).trans rfl
            have hcz36_5 : wc.cell? ⟨gb109, 5, none⟩ = some (.int .i64 a0_5) := (blk_cell BK109.out 5).trans rfl
            have hcz36_6 : wc.cell? ⟨gb109, 6, none⟩ = some (.bool a0_6) := (blk_cell BK109.out 6).trans rfl
            have hcz36_7 : wc.cell? ⟨gb109, 7, none⟩ = some (.bool a0_7) := (blk_cell BK109.out 7).trans rfl
            have hcz36_8 : wc.cell? ⟨gb109, 8, none⟩ = some (.bool a0_8) := (blk_cell BK109.out 8).trans rfl
            have hcz36_9 : wc.cell? ⟨gb109, 9, none⟩ = some (.bool a0_9) := (blk_cell BK109.out 9).trans rfl
            have hfz36_0 := blk_frozen BK109.out 0
            have hfz36_1 := blk_frozen BK109.out 1
            have hfz36_2 := blk_frozen BK109.out 2
            have hfz36_3 := blk_frozen BK109.out 3
            have hfz36_4 := blk_frozen BK109.out 4
            have hfz36_5 := blk_frozen BK109.out 5
            have hfz36_6 := blk_frozen BK109.out 6
            have hfz36_7 := blk_frozen BK109.out 7
            have hfz36_8 := blk_frozen BK109.out 8
            have hfz36_9 := blk_frozen BK109.out 9
            go_wp2
            go_ret
            exact ⟨by first | rfl | (simp [errW_none, errW_some] <;> rfl) | (simp [*, errW_none, errW_some] <;> rfl), bl HB.out⟩
           ·rw [if_neg c35] at H
            have c35b0 : decide (a0_5 < a0_3) = false := decide_eq_false c35
            clear c35
            obtain rfl := Option.some.inj H
            have hcz37_0 : wc.cell? ⟨gb109, 0, none⟩ = some (.string a0_0) := (blk_cell BK109.out 0).trans rfl
            have hcz37_1 : wc.cell? ⟨gb109, 1, none⟩ = some (.int .i64 a0_1) := (blk_cell BK109.out 1).trans rfl
            have hcz37_2 : wc.cell? ⟨gb109, 2, none⟩ = some (.int .i64 a0_2) := (blk_cell BK109.out 2).trans rfl
            have hcz37_3 : wc.cell? ⟨gb109, 3, none⟩ = some (.int .i64 a0_3) := (blk_cell BK109.out 3).trans rfl
            have hcz37_4 : wc.cell? ⟨gb109, 4, none⟩ = some (.int .i64 a0_4) := (blk_cell BK109.out 4).trans rfl
            have hcz37_5 : wc.cell? ⟨gb109, 5, none⟩ = some (.int .i64 a0_5) := (blk_cell BK109.out 5).trans rfl
            have hcz37_6 : wc.cell? ⟨gb109, 6, none⟩ = some (.bool a0_6) := (blk_cell BK109.out 6).trans rfl
            have hcz37_7 : wc.cell? ⟨gb109, 7, none⟩ = some (.bool a0_7) := (blk_cell BK109.out 7).trans rfl
            have hcz37_8 : wc.cell? ⟨gb109, 8, none⟩ = some (.bool a0_8) := (blk_cell BK109.out 8).trans rfl
            have hcz37_9 : wc.cell? ⟨gb109, 9, none⟩ = some (.bool a0_9) := (blk_cell BK109.out 9).trans rfl
            have hfz37_0 := blk_frozen BK109.out 0
            have hfz37_1 := blk_frozen BK109.out 1
            have hfz37_2 := blk_frozen BK109.out 2
            have hfz37_3 := blk_frozen BK109.out 3
            have hfz37_4 := blk_frozen BK109.out 4
            have hfz37_5 := blk_frozen BK109.out 5
            have hfz37_6 := blk_frozen BK109.out 6
            have hfz37_7 := blk_frozen BK109.out 7
            have hfz37_8 := blk_frozen BK109.out 8
            have hfz37_9 := blk_frozen BK109.out 9
            go_wp2
            go_ret
            exact ⟨by first | rfl | (simp [errW_none, errW_some] <;> rfl) | (simp [*, errW_none, errW_some] <;> rfl), bl HB.out⟩
    ·rw [if_neg c9] at H
     have c9b0 : (t110 == 0) = false := beq_eq_false_iff_ne.mpr c9
     have c9b1 : (t110 != 0) = true := bne_iff_ne.mpr c9
     obtain rfl := Option.some.inj H
     have hcz38_0 : wc.cell? ⟨gb109, 0, none⟩ = some (.string a0_0) := (blk_cell BK109.out 0).trans rfl
     have hcz38_1 : wc.cell? ⟨gb109, 1, none⟩ = some (.int .i64 a0_1) := (blk_cell BK109.out 1).trans rfl
     have hcz38_2 : wc.cell? ⟨gb109, 2, none⟩ = some (.int .i64 a0_2) := (blk_cell BK109.out 2).trans rfl
     have hcz38_3 : wc.cell? ⟨gb109, 3, none⟩ = some (.int .i64 a0_3) := (blk_cell BK109.out 3).trans rfl
     have hcz38_4 : wc.cell? ⟨gb109, 4, none⟩ = some (.int .i64 a0_4) := (blk_cell BK109.out 4).trans rfl
     have hcz38_5 : wc.cell? ⟨gb109, 5, none⟩ = some (.int .i64 a0_5) := (blk_cell BK109.out 5).trans rfl
     have hcz38_6 : wc.cell? ⟨gb109, 6, none⟩ = some (.bool a0_6) := (blk_cell BK109.out 6).trans rfl
     have hcz38_7 : wc.cell? ⟨gb109, 7, none⟩ = some (.bool a0_7) := (blk_cell BK109.out 7).trans rfl
     have hcz38_8 : wc.cell? ⟨gb109, 8, none⟩ = some (.bool a0_8) := (blk_cell BK109.out 8).trans rfl
     have hcz38_9 : wc.cell? ⟨gb109, 9, none⟩ = some (.bool a0_9) := (blk_cell BK109.out 9).trans rfl
     have hfz38_0 := blk_frozen BK109.out 0
     have hfz38_1 := blk_frozen BK109.out 1
     have hfz38_2 := blk_frozen BK109.out 2
     have hfz38_3 := blk_frozen BK109.out 3
     have hfz38_4 := blk_frozen BK109.out 4
     have hfz38_5 := blk_frozen BK109.out 5
     have hfz38_6 := blk_frozen BK109.out 6
     have hfz38_7 := blk_frozen BK109.out 7
     have hfz38_8 := blk_frozen BK109.out 8
     have hfz38_9 := blk_frozen BK109.out 9
     go_wp2_with (first | ((with_reducible refine gate_callee (f := 45) rfl ?_); refine goesL_ (some 14) rfl rfl Tryd.func45 (by kernel_rfl) rfl #[.string a0_0] rfl (by (try simp only [List.map_toArray, List.map_cons, List.map_nil]); first | done | rfl | (simp only [List.length_drop, List.length_take]; rfl)) ?_; (with_reducible refine (cellref_name.calls kj1 a0_0 t110 _ ?side1 A8.out).mono ?_); (case side1 => first | exact hGl | exact gl_below hGl (bl HB.out)); rintro e w' ⟨rfl, ⟨nd, rfl⟩⟩; refine ⟨_, rfl, ?_⟩))
     go_ret
     exact ⟨by first | rfl | (simp [errW_none, errW_some] <;> rfl) | (simp [*, errW_none, errW_some] <;> rfl), bl HB.out⟩

end Go.Proofs.YtefhcgnamfnkbaaDoor.Pr
