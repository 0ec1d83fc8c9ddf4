/- exact.Add, Sub, Mul, Div. -/
import Derived.Test.YtefhcgnamfnkbaaGreatDoorTwo
import Derived.Test.YtefhcgnamfnkbaaGreatDoorLits
namespace Go.Proofs.YtefhcgnamfnkbaaGreatDoor.Pr
open Go.RowKit Go.Proofs.YtefhcgnamfnkbaaGreatDoorW.PrintWords Go.Proofs.YtefhcgnamfnkbaaGreatDoorW.PrintLast Go.Proofs.YtefhcgnamfnkbaaGreatDoorW.PrintMore

theorem third_new (w : World) (o1 o2 o3 : Obj) : (((w.alloc o1).alloc o2).alloc o3).heap[w.heap.size + 1 + 1]? = some o3 := by
  have := World.alloc_heap_new ((w.alloc o1).alloc o2) o3
  rw [World.size_alloc, World.size_alloc] at this
  exact this
def exact_Add.f (k : Nat) (a0_0 a0_1 a1_0 a1_1 : ByteArray) : Option (ByteArray × ByteArray × Int) := exact_two.f exact_Add_1.f k a0_0 a0_1 a1_0 a1_1
set_option maxHeartbeats 4000000 in
set_option maxRecDepth 100000 in
theorem exact_Add.calls (k : Nat) (a0_0 a0_1 a1_0 a1_1 : ByteArray) (r1 r2 : ByteArray) (r3 : Int) (w : World) (hGl : Gl w) (h : exact_Add.f k a0_0 a0_1 a1_0 a1_1 = some (r1, r2, r3)) :
    Calls Tryz.prog 10 #[.agg #[.string a0_0, .string a0_1], .agg #[.string a1_0, .string a1_1]] w fun e w' => e = .returned (.tuple #[.agg #[.string r1, .string r2], .int .i64 r3]) ∧ Below w.heap.size w w' := by
  have hu23 := Tryz.underlying23
  have H := Aside0.mk h
  clear h
  go_enter Tryz.func10, Tryz.ntmps10
  go_wp2_with (go_at_call 37; refine (exact_two.calls 38 exact_Add_1.f Tryz.f38 Tryz.func38 (by kernel_rfl) rfl exact_Add_1.calls k _ _ _ _ r1 r2 r3 _ (gl_below hGl ?hB) H.out).mono ?_; (case hB => exact below_alloc (below_alloc (below_alloc (Below.refl _ _) _) _) _); rintro e w1 ⟨rfl, hb1⟩; have hk := (hb1.block (w.heap.size + 1 + 1) (blk_lt (third_new w _ _ _))).trans (third_new w _ _ _); have hb0 := below_step (below_alloc (below_alloc (below_alloc (Below.refl _ w) _) _) _) hb1; clear hb1; have hk2 := blk_set hk 0 (.string r1); have hk3 := blk_set hk2 1 (.string r2); have c0 := (blk_cell hk 0).trans rfl; have c1 := (blk_cell hk2 1).trans rfl; have f0 := blk_frozen hk 0; have f1 := blk_frozen hk2 1; have c2 := (blk_cell hk3 0).trans rfl; have c3 := (blk_cell hk3 1).trans rfl)
  refine bodyPost_ret (results_ct rfl _ _ (w.heap.size + 1 + 1) 23 _ (0, 0) _ rfl hk3 Tryz.underlying23 rfl (by kernel_rfl)) rfl ?_
  exact ⟨rfl, (hb0.setCell (p := ⟨w.heap.size + 1 + 1, 0, none⟩) (by show w.heap.size ≤ w.heap.size + 1 + 1; omega) _).setCell (p := ⟨w.heap.size + 1 + 1, 1, none⟩) (by show w.heap.size ≤ w.heap.size + 1 + 1; omega) _⟩
def exact_Sub.f (k : Nat) (a0_0 a0_1 a1_0 a1_1 : ByteArray) : Option (ByteArray × ByteArray × Int) := exact_two.f exact_Sub_1.f k a0_0 a0_1 a1_0 a1_1
set_option maxHeartbeats 4000000 in
set_option maxRecDepth 100000 in
theorem exact_Sub.calls (k : Nat) (a0_0 a0_1 a1_0 a1_1 : ByteArray) (r1 r2 : ByteArray) (r3 : Int) (w : World) (hGl : Gl w) (h : exact_Sub.f k a0_0 a0_1 a1_0 a1_1 = some (r1, r2, r3)) :
    Calls Tryz.prog 12 #[.agg #[.string a0_0, .string a0_1], .agg #[.string a1_0, .string a1_1]] w fun e w' => e = .returned (.tuple #[.agg #[.string r1, .string r2], .int .i64 r3]) ∧ Below w.heap.size w w' := by
  have hu23 := Tryz.underlying23
  have H := Aside0.mk h
  clear h
  go_enter Tryz.func12, Tryz.ntmps12
  go_wp2_with (go_at_call 37; refine (exact_two.calls 42 exact_Sub_1.f Tryz.f42 Tryz.func42 (by kernel_rfl) rfl exact_Sub_1.calls k _ _ _ _ r1 r2 r3 _ (gl_below hGl ?hB) H.out).mono ?_; (case hB => exact below_alloc (below_alloc (below_alloc (Below.refl _ _) _) _) _); rintro e w1 ⟨rfl, hb1⟩; have hk := (hb1.block (w.heap.size + 1 + 1) (blk_lt (third_new w _ _ _))).trans (third_new w _ _ _); have hb0 := below_step (below_alloc (below_alloc (below_alloc (Below.refl _ w) _) _) _) hb1; clear hb1; have hk2 := blk_set hk 0 (.string r1); have hk3 := blk_set hk2 1 (.string r2); have c0 := (blk_cell hk 0).trans rfl; have c1 := (blk_cell hk2 1).trans rfl; have f0 := blk_frozen hk 0; have f1 := blk_frozen hk2 1; have c2 := (blk_cell hk3 0).trans rfl; have c3 := (blk_cell hk3 1).trans rfl)
  refine bodyPost_ret (results_ct rfl _ _ (w.heap.size + 1 + 1) 23 _ (0, 0) _ rfl hk3 Tryz.underlying23 rfl (by kernel_rfl)) rfl ?_
  exact ⟨rfl, (hb0.setCell (p := ⟨w.heap.size + 1 + 1, 0, none⟩) (by show w.heap.size ≤ w.heap.size + 1 + 1; omega) _).setCell (p := ⟨w.heap.size + 1 + 1, 1, none⟩) (by show w.heap.size ≤ w.heap.size + 1 + 1; omega) _⟩
def exact_Mul.f (k : Nat) (a0_0 a0_1 a1_0 a1_1 : ByteArray) : Option (ByteArray × ByteArray × Int) := exact_two.f exact_Mul_1.f k a0_0 a0_1 a1_0 a1_1
set_option maxHeartbeats 4000000 in
set_option maxRecDepth 100000 in
theorem exact_Mul.calls (k : Nat) (a0_0 a0_1 a1_0 a1_1 : ByteArray) (r1 r2 : ByteArray) (r3 : Int) (w : World) (hGl : Gl w) (h : exact_Mul.f k a0_0 a0_1 a1_0 a1_1 = some (r1, r2, r3)) :
    Calls Tryz.prog 11 #[.agg #[.string a0_0, .string a0_1], .agg #[.string a1_0, .string a1_1]] w fun e w' => e = .returned (.tuple #[.agg #[.string r1, .string r2], .int .i64 r3]) ∧ Below w.heap.size w w' := by
  have hu23 := Tryz.underlying23
  have H := Aside0.mk h
  clear h
  go_enter Tryz.func11, Tryz.ntmps11
  go_wp2_with (go_at_call 37; refine (exact_two.calls 40 exact_Mul_1.f Tryz.f40 Tryz.func40 (by kernel_rfl) rfl exact_Mul_1.calls k _ _ _ _ r1 r2 r3 _ (gl_below hGl ?hB) H.out).mono ?_; (case hB => exact below_alloc (below_alloc (below_alloc (Below.refl _ _) _) _) _); rintro e w1 ⟨rfl, hb1⟩; have hk := (hb1.block (w.heap.size + 1 + 1) (blk_lt (third_new w _ _ _))).trans (third_new w _ _ _); have hb0 := below_step (below_alloc (below_alloc (below_alloc (Below.refl _ w) _) _) _) hb1; clear hb1; have hk2 := blk_set hk 0 (.string r1); have hk3 := blk_set hk2 1 (.string r2); have c0 := (blk_cell hk 0).trans rfl; have c1 := (blk_cell hk2 1).trans rfl; have f0 := blk_frozen hk 0; have f1 := blk_frozen hk2 1; have c2 := (blk_cell hk3 0).trans rfl; have c3 := (blk_cell hk3 1).trans rfl)
  refine bodyPost_ret (results_ct rfl _ _ (w.heap.size + 1 + 1) 23 _ (0, 0) _ rfl hk3 Tryz.underlying23 rfl (by kernel_rfl)) rfl ?_
  exact ⟨rfl, (hb0.setCell (p := ⟨w.heap.size + 1 + 1, 0, none⟩) (by show w.heap.size ≤ w.heap.size + 1 + 1; omega) _).setCell (p := ⟨w.heap.size + 1 + 1, 1, none⟩) (by show w.heap.size ≤ w.heap.size + 1 + 1; omega) _⟩
def exact_Div.f (k : Nat) (a0_0 a0_1 a1_0 a1_1 : ByteArray) : Option (ByteArray × ByteArray × Int) := exact_two.f exact_Div_1.f k a0_0 a0_1 a1_0 a1_1
set_option maxHeartbeats 4000000 in
set_option maxRecDepth 100000 in
theorem exact_Div.calls (k : Nat) (a0_0 a0_1 a1_0 a1_1 : ByteArray) (r1 r2 : ByteArray) (r3 : Int) (w : World) (hGl : Gl w) (h : exact_Div.f k a0_0 a0_1 a1_0 a1_1 = some (r1, r2, r3)) :
    Calls Tryz.prog 13 #[.agg #[.string a0_0, .string a0_1], .agg #[.string a1_0, .string a1_1]] w fun e w' => e = .returned (.tuple #[.agg #[.string r1, .string r2], .int .i64 r3]) ∧ Below w.heap.size w w' := by
  have hu23 := Tryz.underlying23
  have H := Aside0.mk h
  clear h
  go_enter Tryz.func13, Tryz.ntmps13
  go_wp2_with (go_at_call 37; refine (exact_two.calls 43 exact_Div_1.f Tryz.f43 Tryz.func43 (by kernel_rfl) rfl exact_Div_1.calls k _ _ _ _ r1 r2 r3 _ (gl_below hGl ?hB) H.out).mono ?_; (case hB => exact below_alloc (below_alloc (below_alloc (Below.refl _ _) _) _) _); rintro e w1 ⟨rfl, hb1⟩; have hk := (hb1.block (w.heap.size + 1 + 1) (blk_lt (third_new w _ _ _))).trans (third_new w _ _ _); have hb0 := below_step (below_alloc (below_alloc (below_alloc (Below.refl _ w) _) _) _) hb1; clear hb1; have hk2 := blk_set hk 0 (.string r1); have hk3 := blk_set hk2 1 (.string r2); have c0 := (blk_cell hk 0).trans rfl; have c1 := (blk_cell hk2 1).trans rfl; have f0 := blk_frozen hk 0; have f1 := blk_frozen hk2 1; have c2 := (blk_cell hk3 0).trans rfl; have c3 := (blk_cell hk3 1).trans rfl)
  refine bodyPost_ret (results_ct rfl _ _ (w.heap.size + 1 + 1) 23 _ (0, 0) _ rfl hk3 Tryz.underlying23 rfl (by kernel_rfl)) rfl ?_
  exact ⟨rfl, (hb0.setCell (p := ⟨w.heap.size + 1 + 1, 0, none⟩) (by show w.heap.size ≤ w.heap.size + 1 + 1; omega) _).setCell (p := ⟨w.heap.size + 1 + 1, 1, none⟩) (by show w.heap.size ≤ w.heap.size + 1 + 1; omega) _⟩
end Go.Proofs.YtefhcgnamfnkbaaGreatDoor.Pr
