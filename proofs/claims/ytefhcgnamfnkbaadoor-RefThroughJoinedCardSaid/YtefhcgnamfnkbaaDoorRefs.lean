/- chancerykeep2.refs: the one reference that it reads and prints, walked at its constants. -/
import Derived.Test.YtefhcgnamfnkbaaDoorPlace
import Derived.Test.YtefhcgnamfnkbaaDoorPrx3
import Derived.Test.YtefhcgnamfnkbaaDoorPrx5
import Derived.Test.YtefhcgnamfnkbaaDoorPrx6
namespace Go.Proofs.YtefhcgnamfnkbaaDoor.Pr
open Go.RowKit Go.Proofs.YtefhcgnamfnkbaaDoorW.PrintWords Go.Proofs.YtefhcgnamfnkbaaDoorW.PrintLast Go.Proofs.YtefhcgnamfnkbaaDoorW.PrintMore
theorem h_sheet : cellref_sheet.f 100 ⟨#[39, 97, 32, 98, 39, 33, 36, 67, 52]⟩ = some (⟨#[97, 32, 98]⟩, ⟨#[36, 67, 52]⟩, true) := by decide +kernel
theorem h_cut : strings_Cut.f ⟨#[36, 67, 52]⟩ ⟨#[58]⟩ = some (⟨#[36, 67, 52]⟩, ⟨#[]⟩, false) := by decide +kernel
theorem h_place : cellref_place.f ⟨#[36, 67, 52]⟩ = some (⟨#[67]⟩, ⟨#[52]⟩, true, false, true) := by decide +kernel
theorem h_values : cellref_corner_values.f 100 ⟨#[67]⟩ ⟨#[52]⟩ true false = some (3, 2, 0) := by decide +kernel
theorem h_ordered : cellref_ordered.f ⟨#[97, 32, 98]⟩ 0 3 2 0 0 false true false false = some (⟨#[97, 32, 98]⟩, 0, 3, 2, 0, 0, false, true, false, false) := by rfl
theorem h_check : cellref_Check.f 100 ⟨#[97, 32, 98]⟩ 0 3 2 0 0 false true false false = some 0 := by decide +kernel
theorem h_print : cellref_Print.f 100 ⟨#[97, 32, 98]⟩ 0 3 2 0 0 false true false false = some (⟨#[39, 97, 32, 98, 39, 33, 36, 67, 52]⟩, 0) := by decide +kernel
set_option maxHeartbeats 8000000 in
set_option maxRecDepth 100000 in
theorem parse_c (w : World) (hGl : Gl w) :
    Calls Tryd.prog 22 #[.string ⟨#[39, 97, 32, 98, 39, 33, 36, 67, 52]⟩] w fun e w' => e = .returned (.tuple #[.agg #[.string ⟨#[97, 32, 98]⟩, .int .i64 0, .int .i64 3, .int .i64 2, .int .i64 0, .int .i64 0, .bool false, .bool true, .bool false, .bool false], .int .i64 0]) ∧ Below w.heap.size w w' := by
  go_enter Tryd.func22, Tryd.ntmps22
  go_wp2_with fail
  have hW0 := below_alloc (Below.refl w.heap.size w) (Obj.cells #[.string ⟨#[]⟩, .int .i64 0, .int .i64 0, .int .i64 0, .int .i64 0, .int .i64 0, .bool false, .bool false, .bool false, .bool false] 44)
  have hR0 := blk_new w (Obj.cells #[.string ⟨#[]⟩, .int .i64 0, .int .i64 0, .int .i64 0, .int .i64 0, .int .i64 0, .bool false, .bool false, .bool false, .bool false] 44)
  refine (cellref_sheet.calls 100 _ _ _ _ _ (gl_below hGl hW0) h_sheet).mono ?_
  rintro e w1 ⟨rfl, hb1⟩
  have HW1 := Aside0.mk (below_step hW0 hb1)
  have HR1 := Aside0.mk (blk_below hR0 hb1)
  clear hW0 hR0 hb1
  go_wp2_with fail
  refine (strings_Cut.calls _ _ _ _ _ _ (gl_below hGl HW1.out) h_cut).mono ?_
  rintro e w' ⟨rfl, ⟨n, rfl⟩⟩
  go_wp2_with fail
  refine (cellref_place.calls _ _ _ _ _ _ _ (gl_below hGl (pw_below_drewN HW1.out n)) h_place).mono ?_
  rintro e w2 ⟨rfl, hb2⟩
  have HW2 := Aside0.mk (below_step (pw_below_drewN HW1.out n) hb2)
  have HR2 := Aside0.mk (blk_below (blk_drewN HR1.out n) hb2)
  clear hb2 HW1 HR1
  go_wp2_with fail
  have hW3 := below_alloc (below_alloc (below_alloc HW2.out (Obj.cells #[.string ⟨#[67]⟩, .string ⟨#[52]⟩, .bool true, .bool false] 107)) (Obj.cells #[.string ⟨#[67]⟩, .string ⟨#[52]⟩, .bool true, .bool false] 107)) (Obj.cells #[.string ⟨#[97, 32, 98]⟩, .int .i64 0, .int .i64 0, .int .i64 0, .int .i64 0, .int .i64 0, .bool false, .bool true, .bool false, .bool false] 44)
  have hR3 := blk_alloc (blk_alloc (blk_alloc HR2.out (Obj.cells #[.string ⟨#[67]⟩, .string ⟨#[52]⟩, .bool true, .bool false] 107)) (Obj.cells #[.string ⟨#[67]⟩, .string ⟨#[52]⟩, .bool true, .bool false] 107)) (Obj.cells #[.string ⟨#[97, 32, 98]⟩, .int .i64 0, .int .i64 0, .int .i64 0, .int .i64 0, .int .i64 0, .bool false, .bool true, .bool false, .bool false] 44)
  have hK3 := blk_new ((w2.alloc (Obj.cells #[.string ⟨#[67]⟩, .string ⟨#[52]⟩, .bool true, .bool false] 107)).alloc (Obj.cells #[.string ⟨#[67]⟩, .string ⟨#[52]⟩, .bool true, .bool false] 107)) (Obj.cells #[.string ⟨#[97, 32, 98]⟩, .int .i64 0, .int .i64 0, .int .i64 0, .int .i64 0, .int .i64 0, .bool false, .bool true, .bool false, .bool false] 44)
  have hsz : ((w2.alloc (Obj.cells #[.string ⟨#[67]⟩, .string ⟨#[52]⟩, .bool true, .bool false] 107)).alloc (Obj.cells #[.string ⟨#[67]⟩, .string ⟨#[52]⟩, .bool true, .bool false] 107)).heap.size = w2.heap.size + 1 + 1 := by simp
  rw [hsz] at hK3
  have hlt : w.heap.size < w2.heap.size := blk_lt HR2.out
  refine (cellref_corner_values.calls 100 _ _ _ _ _ _ _ _ (gl_below hGl hW3) h_values).mono ?_
  rintro e w3 ⟨rfl, hb3⟩
  have HW3 := Aside0.mk (below_step hW3 hb3)
  have HR3 := Aside0.mk (blk_below hR3 hb3)
  have HK3 := Aside0.mk (blk_below hK3 hb3)
  clear hW3 hR3 hK3 hb3 hsz HW2 HR2
  have kc0 := (blk_cell HK3.out 0).trans rfl
  have kf0 := blk_frozen HK3.out 0
  have kc1 := (blk_cell HK3.out 1).trans rfl
  have kf1 := blk_frozen HK3.out 1
  have kc2 := (blk_cell HK3.out 2).trans rfl
  have kf2 := blk_frozen HK3.out 2
  have kc3 := (blk_cell HK3.out 3).trans rfl
  have kf3 := blk_frozen HK3.out 3
  have kc4 := (blk_cell HK3.out 4).trans rfl
  have kf4 := blk_frozen HK3.out 4
  have kc5 := (blk_cell HK3.out 5).trans rfl
  have kf5 := blk_frozen HK3.out 5
  have kc6 := (blk_cell HK3.out 6).trans rfl
  have kf6 := blk_frozen HK3.out 6
  have kc7 := (blk_cell HK3.out 7).trans rfl
  have kf7 := blk_frozen HK3.out 7
  have kc8 := (blk_cell HK3.out 8).trans rfl
  have kf8 := blk_frozen HK3.out 8
  have kc9 := (blk_cell HK3.out 9).trans rfl
  have kf9 := blk_frozen HK3.out 9
  go_wp2_with fail
  have hW4 := below_set (j := 3) (v := .int .i64 2) (below_set (j := 2) (v := .int .i64 3) HW3.out (g := w2.heap.size + 1 + 1) (by omega)) (g := w2.heap.size + 1 + 1) (by omega)
  have hR4 := blk_far (blk_far HR3.out (p := ⟨w2.heap.size + 1 + 1, 2, none⟩) (by show w.heap.size ≠ _; simp; omega) (.int .i64 3)) (p := ⟨w2.heap.size + 1 + 1, 3, none⟩) (by show w.heap.size ≠ _; simp; omega) (.int .i64 2)
  have hK4 := blk_put (cs' := #[.string ⟨#[97, 32, 98]⟩, .int .i64 0, .int .i64 3, .int .i64 2, .int .i64 0, .int .i64 0, .bool false, .bool true, .bool false, .bool false]) (blk_put (cs' := #[.string ⟨#[97, 32, 98]⟩, .int .i64 0, .int .i64 3, .int .i64 0, .int .i64 0, .int .i64 0, .bool false, .bool true, .bool false, .bool false]) HK3.out 2 (.int .i64 3) rfl) 3 (.int .i64 2) rfl
  clear kc0 kf0 kc1 kf1 kc2 kf2 kc3 kf3 kc4 kf4 kc5 kf5 kc6 kf6 kc7 kf7 kc8 kf8 kc9 kf9
  refine (cellref_ordered.calls _ _ _ _ _ _ _ _ _ _ _ _ _ _ _ _ _ _ _ _ _ (gl_below hGl hW4) h_ordered).mono ?_
  rintro e w4 ⟨rfl, hb4⟩
  have HW4 := Aside0.mk (below_step hW4 hb4)
  have HR4 := Aside0.mk (blk_below hR4 hb4)
  have HK4 := Aside0.mk (blk_below hK4 hb4)
  clear hW4 hR4 hK4 hb4 HW3 HR3 HK3
  have kc0 := (blk_cell HK4.out 0).trans rfl
  have kf0 := blk_frozen HK4.out 0
  have kc1 := (blk_cell HK4.out 1).trans rfl
  have kf1 := blk_frozen HK4.out 1
  have kc2 := (blk_cell HK4.out 2).trans rfl
  have kf2 := blk_frozen HK4.out 2
  have kc3 := (blk_cell HK4.out 3).trans rfl
  have kf3 := blk_frozen HK4.out 3
  have kc4 := (blk_cell HK4.out 4).trans rfl
  have kf4 := blk_frozen HK4.out 4
  have kc5 := (blk_cell HK4.out 5).trans rfl
  have kf5 := blk_frozen HK4.out 5
  have kc6 := (blk_cell HK4.out 6).trans rfl
  have kf6 := blk_frozen HK4.out 6
  have kc7 := (blk_cell HK4.out 7).trans rfl
  have kf7 := blk_frozen HK4.out 7
  have kc8 := (blk_cell HK4.out 8).trans rfl
  have kf8 := blk_frozen HK4.out 8
  have kc9 := (blk_cell HK4.out 9).trans rfl
  have kf9 := blk_frozen HK4.out 9
  go_wp2_with fail
  have hW5 := HW4.out
  replace hW5 := below_set (j := 0) (v := .string ⟨#[97, 32, 98]⟩) hW5 (g := w2.heap.size + 1 + 1) (by omega)
  replace hW5 := below_set (j := 1) (v := .int .i64 0) hW5 (g := w2.heap.size + 1 + 1) (by omega)
  replace hW5 := below_set (j := 2) (v := .int .i64 3) hW5 (g := w2.heap.size + 1 + 1) (by omega)
  replace hW5 := below_set (j := 3) (v := .int .i64 2) hW5 (g := w2.heap.size + 1 + 1) (by omega)
  replace hW5 := below_set (j := 4) (v := .int .i64 0) hW5 (g := w2.heap.size + 1 + 1) (by omega)
  replace hW5 := below_set (j := 5) (v := .int .i64 0) hW5 (g := w2.heap.size + 1 + 1) (by omega)
  replace hW5 := below_set (j := 6) (v := .bool false) hW5 (g := w2.heap.size + 1 + 1) (by omega)
  replace hW5 := below_set (j := 7) (v := .bool true) hW5 (g := w2.heap.size + 1 + 1) (by omega)
  replace hW5 := below_set (j := 8) (v := .bool false) hW5 (g := w2.heap.size + 1 + 1) (by omega)
  replace hW5 := below_set (j := 9) (v := .bool false) hW5 (g := w2.heap.size + 1 + 1) (by omega)
  have hR5 := HR4.out
  replace hR5 := blk_far hR5 (p := ⟨w2.heap.size + 1 + 1, 0, none⟩) (by show w.heap.size ≠ _; simp; omega) (.string ⟨#[97, 32, 98]⟩)
  replace hR5 := blk_far hR5 (p := ⟨w2.heap.size + 1 + 1, 1, none⟩) (by show w.heap.size ≠ _; simp; omega) (.int .i64 0)
  replace hR5 := blk_far hR5 (p := ⟨w2.heap.size + 1 + 1, 2, none⟩) (by show w.heap.size ≠ _; simp; omega) (.int .i64 3)
  replace hR5 := blk_far hR5 (p := ⟨w2.heap.size + 1 + 1, 3, none⟩) (by show w.heap.size ≠ _; simp; omega) (.int .i64 2)
  replace hR5 := blk_far hR5 (p := ⟨w2.heap.size + 1 + 1, 4, none⟩) (by show w.heap.size ≠ _; simp; omega) (.int .i64 0)
  replace hR5 := blk_far hR5 (p := ⟨w2.heap.size + 1 + 1, 5, none⟩) (by show w.heap.size ≠ _; simp; omega) (.int .i64 0)
  replace hR5 := blk_far hR5 (p := ⟨w2.heap.size + 1 + 1, 6, none⟩) (by show w.heap.size ≠ _; simp; omega) (.bool false)
  replace hR5 := blk_far hR5 (p := ⟨w2.heap.size + 1 + 1, 7, none⟩) (by show w.heap.size ≠ _; simp; omega) (.bool true)
  replace hR5 := blk_far hR5 (p := ⟨w2.heap.size + 1 + 1, 8, none⟩) (by show w.heap.size ≠ _; simp; omega) (.bool false)
  replace hR5 := blk_far hR5 (p := ⟨w2.heap.size + 1 + 1, 9, none⟩) (by show w.heap.size ≠ _; simp; omega) (.bool false)
  have hK5 := HK4.out
  replace hK5 := blk_put (cs' := #[.string ⟨#[97, 32, 98]⟩, .int .i64 0, .int .i64 3, .int .i64 2, .int .i64 0, .int .i64 0, .bool false, .bool true, .bool false, .bool false]) hK5 0 (.string ⟨#[97, 32, 98]⟩) rfl
  replace hK5 := blk_put (cs' := #[.string ⟨#[97, 32, 98]⟩, .int .i64 0, .int .i64 3, .int .i64 2, .int .i64 0, .int .i64 0, .bool false, .bool true, .bool false, .bool false]) hK5 1 (.int .i64 0) rfl
  replace hK5 := blk_put (cs' := #[.string ⟨#[97, 32, 98]⟩, .int .i64 0, .int .i64 3, .int .i64 2, .int .i64 0, .int .i64 0, .bool false, .bool true, .bool false, .bool false]) hK5 2 (.int .i64 3) rfl
  replace hK5 := blk_put (cs' := #[.string ⟨#[97, 32, 98]⟩, .int .i64 0, .int .i64 3, .int .i64 2, .int .i64 0, .int .i64 0, .bool false, .bool true, .bool false, .bool false]) hK5 3 (.int .i64 2) rfl
  replace hK5 := blk_put (cs' := #[.string ⟨#[97, 32, 98]⟩, .int .i64 0, .int .i64 3, .int .i64 2, .int .i64 0, .int .i64 0, .bool false, .bool true, .bool false, .bool false]) hK5 4 (.int .i64 0) rfl
  replace hK5 := blk_put (cs' := #[.string ⟨#[97, 32, 98]⟩, .int .i64 0, .int .i64 3, .int .i64 2, .int .i64 0, .int .i64 0, .bool false, .bool true, .bool false, .bool false]) hK5 5 (.int .i64 0) rfl
  replace hK5 := blk_put (cs' := #[.string ⟨#[97, 32, 98]⟩, .int .i64 0, .int .i64 3, .int .i64 2, .int .i64 0, .int .i64 0, .bool false, .bool true, .bool false, .bool false]) hK5 6 (.bool false) rfl
  replace hK5 := blk_put (cs' := #[.string ⟨#[97, 32, 98]⟩, .int .i64 0, .int .i64 3, .int .i64 2, .int .i64 0, .int .i64 0, .bool false, .bool true, .bool false, .bool false]) hK5 7 (.bool true) rfl
  replace hK5 := blk_put (cs' := #[.string ⟨#[97, 32, 98]⟩, .int .i64 0, .int .i64 3, .int .i64 2, .int .i64 0, .int .i64 0, .bool false, .bool true, .bool false, .bool false]) hK5 8 (.bool false) rfl
  replace hK5 := blk_put (cs' := #[.string ⟨#[97, 32, 98]⟩, .int .i64 0, .int .i64 3, .int .i64 2, .int .i64 0, .int .i64 0, .bool false, .bool true, .bool false, .bool false]) hK5 9 (.bool false) rfl
  clear kc0 kf0 kc1 kf1 kc2 kf2 kc3 kf3 kc4 kf4 kc5 kf5 kc6 kf6 kc7 kf7 kc8 kf8 kc9 kf9
  refine (cellref_Check.calls 100 _ _ _ _ _ _ _ _ _ _ _ _ (gl_below hGl hW5) h_check).mono ?_
  rintro e w5 ⟨rfl, hb5⟩
  have HW5 := Aside0.mk (below_step hW5 hb5)
  have HR5 := Aside0.mk (blk_below hR5 hb5)
  have HK5 := Aside0.mk (blk_below hK5 hb5)
  clear hW5 hR5 hK5 hb5 HW4 HR4 HK4
  have kc0 := (blk_cell HK5.out 0).trans rfl
  have kf0 := blk_frozen HK5.out 0
  have kc1 := (blk_cell HK5.out 1).trans rfl
  have kf1 := blk_frozen HK5.out 1
  have kc2 := (blk_cell HK5.out 2).trans rfl
  have kf2 := blk_frozen HK5.out 2
  have kc3 := (blk_cell HK5.out 3).trans rfl
  have kf3 := blk_frozen HK5.out 3
  have kc4 := (blk_cell HK5.out 4).trans rfl
  have kf4 := blk_frozen HK5.out 4
  have kc5 := (blk_cell HK5.out 5).trans rfl
  have kf5 := blk_frozen HK5.out 5
  have kc6 := (blk_cell HK5.out 6).trans rfl
  have kf6 := blk_frozen HK5.out 6
  have kc7 := (blk_cell HK5.out 7).trans rfl
  have kf7 := blk_frozen HK5.out 7
  have kc8 := (blk_cell HK5.out 8).trans rfl
  have kf8 := blk_frozen HK5.out 8
  have kc9 := (blk_cell HK5.out 9).trans rfl
  have kf9 := blk_frozen HK5.out 9
  have rc0 := (blk_cell HR5.out 0).trans rfl
  have rf0 := blk_frozen HR5.out 0
  have rc1 := (blk_cell HR5.out 1).trans rfl
  have rf1 := blk_frozen HR5.out 1
  have rc2 := (blk_cell HR5.out 2).trans rfl
  have rf2 := blk_frozen HR5.out 2
  have rc3 := (blk_cell HR5.out 3).trans rfl
  have rf3 := blk_frozen HR5.out 3
  have rc4 := (blk_cell HR5.out 4).trans rfl
  have rf4 := blk_frozen HR5.out 4
  have rc5 := (blk_cell HR5.out 5).trans rfl
  have rf5 := blk_frozen HR5.out 5
  have rc6 := (blk_cell HR5.out 6).trans rfl
  have rf6 := blk_frozen HR5.out 6
  have rc7 := (blk_cell HR5.out 7).trans rfl
  have rf7 := blk_frozen HR5.out 7
  have rc8 := (blk_cell HR5.out 8).trans rfl
  have rf8 := blk_frozen HR5.out 8
  have rc9 := (blk_cell HR5.out 9).trans rfl
  have rf9 := blk_frozen HR5.out 9
  go_wp2
  clear kc0 kf0 rc0 rf0 kc1 kf1 rc1 rf1 kc2 kf2 rc2 rf2 kc3 kf3 rc3 rf3 kc4 kf4 rc4 rf4 kc5 kf5 rc5 rf5 kc6 kf6 rc6 rf6 kc7 kf7 rc7 rf7 kc8 kf8 rc8 rf8 kc9 kf9 rc9 rf9
  have hR6 := HR5.out
  have hW6 := HW5.out
  replace hR6 := blk_put (cs' := #[.string ⟨#[97, 32, 98]⟩, .int .i64 0, .int .i64 0, .int .i64 0, .int .i64 0, .int .i64 0, .bool false, .bool false, .bool false, .bool false]) hR6 0 (.string ⟨#[97, 32, 98]⟩) rfl
  replace hW6 := below_set (j := 0) (v := .string ⟨#[97, 32, 98]⟩) hW6 (g := w.heap.size) (Nat.le_refl _)
  replace hR6 := blk_put (cs' := #[.string ⟨#[97, 32, 98]⟩, .int .i64 0, .int .i64 0, .int .i64 0, .int .i64 0, .int .i64 0, .bool false, .bool false, .bool false, .bool false]) hR6 1 (.int .i64 0) rfl
  replace hW6 := below_set (j := 1) (v := .int .i64 0) hW6 (g := w.heap.size) (Nat.le_refl _)
  replace hR6 := blk_put (cs' := #[.string ⟨#[97, 32, 98]⟩, .int .i64 0, .int .i64 3, .int .i64 0, .int .i64 0, .int .i64 0, .bool false, .bool false, .bool false, .bool false]) hR6 2 (.int .i64 3) rfl
  replace hW6 := below_set (j := 2) (v := .int .i64 3) hW6 (g := w.heap.size) (Nat.le_refl _)
  replace hR6 := blk_put (cs' := #[.string ⟨#[97, 32, 98]⟩, .int .i64 0, .int .i64 3, .int .i64 2, .int .i64 0, .int .i64 0, .bool false, .bool false, .bool false, .bool false]) hR6 3 (.int .i64 2) rfl
  replace hW6 := below_set (j := 3) (v := .int .i64 2) hW6 (g := w.heap.size) (Nat.le_refl _)
  replace hR6 := blk_put (cs' := #[.string ⟨#[97, 32, 98]⟩, .int .i64 0, .int .i64 3, .int .i64 2, .int .i64 0, .int .i64 0, .bool false, .bool false, .bool false, .bool false]) hR6 4 (.int .i64 0) rfl
  replace hW6 := below_set (j := 4) (v := .int .i64 0) hW6 (g := w.heap.size) (Nat.le_refl _)
  replace hR6 := blk_put (cs' := #[.string ⟨#[97, 32, 98]⟩, .int .i64 0, .int .i64 3, .int .i64 2, .int .i64 0, .int .i64 0, .bool false, .bool false, .bool false, .bool false]) hR6 5 (.int .i64 0) rfl
  replace hW6 := below_set (j := 5) (v := .int .i64 0) hW6 (g := w.heap.size) (Nat.le_refl _)
  replace hR6 := blk_put (cs' := #[.string ⟨#[97, 32, 98]⟩, .int .i64 0, .int .i64 3, .int .i64 2, .int .i64 0, .int .i64 0, .bool false, .bool false, .bool false, .bool false]) hR6 6 (.bool false) rfl
  replace hW6 := below_set (j := 6) (v := .bool false) hW6 (g := w.heap.size) (Nat.le_refl _)
  replace hR6 := blk_put (cs' := #[.string ⟨#[97, 32, 98]⟩, .int .i64 0, .int .i64 3, .int .i64 2, .int .i64 0, .int .i64 0, .bool false, .bool true, .bool false, .bool false]) hR6 7 (.bool true) rfl
  replace hW6 := below_set (j := 7) (v := .bool true) hW6 (g := w.heap.size) (Nat.le_refl _)
  replace hR6 := blk_put (cs' := #[.string ⟨#[97, 32, 98]⟩, .int .i64 0, .int .i64 3, .int .i64 2, .int .i64 0, .int .i64 0, .bool false, .bool true, .bool false, .bool false]) hR6 8 (.bool false) rfl
  replace hW6 := below_set (j := 8) (v := .bool false) hW6 (g := w.heap.size) (Nat.le_refl _)
  replace hR6 := blk_put (cs' := #[.string ⟨#[97, 32, 98]⟩, .int .i64 0, .int .i64 3, .int .i64 2, .int .i64 0, .int .i64 0, .bool false, .bool true, .bool false, .bool false]) hR6 9 (.bool false) rfl
  replace hW6 := below_set (j := 9) (v := .bool false) hW6 (g := w.heap.size) (Nat.le_refl _)
  obtain ⟨w6, hw6⟩ : ∃ w6, w6 = ((((((((((w5.setCell ⟨w.heap.size, 0, none⟩ (.string ⟨#[97, 32, 98]⟩)).setCell ⟨w.heap.size, 1, none⟩ (.int .i64 0)).setCell ⟨w.heap.size, 2, none⟩ (.int .i64 3)).setCell ⟨w.heap.size, 3, none⟩ (.int .i64 2)).setCell ⟨w.heap.size, 4, none⟩ (.int .i64 0)).setCell ⟨w.heap.size, 5, none⟩ (.int .i64 0)).setCell ⟨w.heap.size, 6, none⟩ (.bool false)).setCell ⟨w.heap.size, 7, none⟩ (.bool true)).setCell ⟨w.heap.size, 8, none⟩ (.bool false)).setCell ⟨w.heap.size, 9, none⟩ (.bool false)) := ⟨_, rfl⟩
  rw [← hw6] at hR6 hW6 ⊢
  clear hw6
  have HR6 := Aside0.mk hR6
  have HW6 := Aside0.mk hW6
  clear hR6 hW6
  refine bodyPost_ret (results_ct rfl _ _ w.heap.size 44 #[.string ⟨#[97, 32, 98]⟩, .int .i64 0, .int .i64 3, .int .i64 2, .int .i64 0, .int .i64 0, .bool false, .bool true, .bool false, .bool false] (0, 0) _ rfl HR6.out Tryd.underlying44 rfl (by kernel_rfl)) rfl ?_
  exact ⟨rfl, HW6.out⟩

set_option maxHeartbeats 1000000 in
theorem refs_c (w : World) (hGl : Gl w) : Calls Tryd.prog 16 #[] w fun e w' => e = .returned (.bool true) ∧ Below w.heap.size w w' := by
  go_enter Tryd.func16, Tryd.ntmps16
  go_wp2_with fail
  refine (parse_c w hGl).mono ?_
  rintro e w1 ⟨rfl, hb1⟩
  have HW1 := Aside0.mk hb1
  clear hb1
  go_wp2_with fail
  have hK := blk_new w1 (Obj.cells #[.string ⟨#[97, 32, 98]⟩, .int .i64 0, .int .i64 3, .int .i64 2, .int .i64 0, .int .i64 0, .bool false, .bool true, .bool false, .bool false] 44)
  refine (cellref_Print.calls 100 _ _ _ _ _ _ _ _ _ _ _ _ _ (gl_below hGl (below_alloc HW1.out _)) h_print).mono ?_
  rintro e w2 ⟨rfl, hb2⟩
  have HW2 := Aside0.mk (below_step (below_alloc HW1.out _) hb2)
  have HK2 := Aside0.mk (blk_below hK hb2)
  clear hK hb2
  have c2 := (blk_cell HK2.out 2).trans rfl
  have c3 := (blk_cell HK2.out 3).trans rfl
  go_wp2
  go_ret
  exact ⟨by first | rfl | simp, HW2.out⟩

def chancerykeep2_refs.f : Option Bool := some true
theorem chancerykeep2_refs.calls (r : Bool) (w : World) (hGl : Gl w) (h : chancerykeep2_refs.f = some r) :
    Calls Tryd.prog 16 #[] w fun e w' => e = .returned (.bool r) ∧ Below w.heap.size w w' := by
  obtain rfl := Option.some.inj h
  exact refs_c w hGl
end Go.Proofs.YtefhcgnamfnkbaaDoor.Pr
