/- cellref.fitting, far, Copied: what they return, and their walks. -/
import Derived.Test.YtefhcgnamfnkbaaDoorPlace
import Derived.Test.YtefhcgnamfnkbaaDoorPrx3
import Derived.Test.YtefhcgnamfnkbaaDoorPrx6
namespace Go.Proofs.YtefhcgnamfnkbaaDoor.Pr
open Go.RowKit Go.Proofs.YtefhcgnamfnkbaaDoorW.PrintWords Go.Proofs.YtefhcgnamfnkbaaDoorW.PrintLast Go.Proofs.YtefhcgnamfnkbaaDoorW.PrintMore

def cellref_far.f (a0 : Int) : Option (Bool) := if a0 < (-1073741824) then (some true) else (some (decide (a0 > 1073741824)))
set_option maxHeartbeats 8000000 in
set_option maxRecDepth 100000 in
theorem cellref_far.calls (a0 : Int) (r : Bool) (w : World) (_hGl : Gl w) (h : cellref_far.f a0 = some r) :
    Calls Tryd.prog 47 #[.int .i64 a0] w fun e w' => e = .returned (.bool r) ∧ Drawn0 w w' := by
 have H : (if a0 < (-1073741824) then (some true) else (some (decide (a0 > 1073741824)))) = some r := h
 clear h
 by_cases c2 : a0 < (-1073741824)
 ·rw [if_pos c2] at H
  have c2b0 : decide (a0 < (-1073741824)) = true := decide_eq_true c2
  clear c2
  obtain rfl := Option.some.inj H
  go_enter Tryd.func47, Tryd.ntmps47
  go_wp2
  go_ret
  exact ⟨by first | rfl | (simp; done) | (simp [*]; done) | (simp [isE]; done), by repeat (first | exact Drawn0.refl _ | apply Drawn0.step)⟩
 ·rw [if_neg c2] at H
  have c2b0 : decide (a0 < (-1073741824)) = false := decide_eq_false c2
  clear c2
  obtain rfl := Option.some.inj H
  go_enter Tryd.func47, Tryd.ntmps47
  go_wp2
  go_ret
  exact ⟨by first | rfl | (simp; done) | (simp [*]; done) | (simp [isE]; done), by repeat (first | exact Drawn0.refl _ | apply Drawn0.step)⟩

theorem store10 {w w1 : World} {b : Nat} {x0 x1 x2 x3 x4 x5 x6 x7 x8 x9 : Value} (hZ : w1.heap[b]? = some (.cells #[x0, x1, x2, x3, x4, x5, x6, x7, x8, x9] 44 (0, 0))) (hW : Below w.heap.size w w1) (hg : w.heap.size ≤ b) (v0 v1 v2 v3 v4 v5 v6 v7 v8 v9 : Value) :
    ((((((((((w1.setCell ⟨b, 0, none⟩ v0).setCell ⟨b, 1, none⟩ v1).setCell ⟨b, 2, none⟩ v2).setCell ⟨b, 3, none⟩ v3).setCell ⟨b, 4, none⟩ v4).setCell ⟨b, 5, none⟩ v5).setCell ⟨b, 6, none⟩ v6).setCell ⟨b, 7, none⟩ v7).setCell ⟨b, 8, none⟩ v8).setCell ⟨b, 9, none⟩ v9).heap[b]? = some (.cells #[v0, v1, v2, v3, v4, v5, v6, v7, v8, v9] 44 (0, 0)) ∧
    Below w.heap.size w ((((((((((w1.setCell ⟨b, 0, none⟩ v0).setCell ⟨b, 1, none⟩ v1).setCell ⟨b, 2, none⟩ v2).setCell ⟨b, 3, none⟩ v3).setCell ⟨b, 4, none⟩ v4).setCell ⟨b, 5, none⟩ v5).setCell ⟨b, 6, none⟩ v6).setCell ⟨b, 7, none⟩ v7).setCell ⟨b, 8, none⟩ v8).setCell ⟨b, 9, none⟩ v9) := by
  constructor
  · replace hZ := blk_put (cs' := #[v0, x1, x2, x3, x4, x5, x6, x7, x8, x9]) hZ 0 v0 rfl
    replace hZ := blk_put (cs' := #[v0, v1, x2, x3, x4, x5, x6, x7, x8, x9]) hZ 1 v1 rfl
    replace hZ := blk_put (cs' := #[v0, v1, v2, x3, x4, x5, x6, x7, x8, x9]) hZ 2 v2 rfl
    replace hZ := blk_put (cs' := #[v0, v1, v2, v3, x4, x5, x6, x7, x8, x9]) hZ 3 v3 rfl
    replace hZ := blk_put (cs' := #[v0, v1, v2, v3, v4, x5, x6, x7, x8, x9]) hZ 4 v4 rfl
    replace hZ := blk_put (cs' := #[v0, v1, v2, v3, v4, v5, x6, x7, x8, x9]) hZ 5 v5 rfl
    replace hZ := blk_put (cs' := #[v0, v1, v2, v3, v4, v5, v6, x7, x8, x9]) hZ 6 v6 rfl
    replace hZ := blk_put (cs' := #[v0, v1, v2, v3, v4, v5, v6, v7, x8, x9]) hZ 7 v7 rfl
    replace hZ := blk_put (cs' := #[v0, v1, v2, v3, v4, v5, v6, v7, v8, x9]) hZ 8 v8 rfl
    exact blk_put (cs' := #[v0, v1, v2, v3, v4, v5, v6, v7, v8, v9]) hZ 9 v9 rfl
  · replace hW := below_set (j := 0) (v := v0) hW hg
    replace hW := below_set (j := 1) (v := v1) hW hg
    replace hW := below_set (j := 2) (v := v2) hW hg
    replace hW := below_set (j := 3) (v := v3) hW hg
    replace hW := below_set (j := 4) (v := v4) hW hg
    replace hW := below_set (j := 5) (v := v5) hW hg
    replace hW := below_set (j := 6) (v := v6) hW hg
    replace hW := below_set (j := 7) (v := v7) hW hg
    replace hW := below_set (j := 8) (v := v8) hW hg
    exact below_set (j := 9) (v := v9) hW hg
theorem far10 {w1 : World} {b b' : Nat} {cs : Array Value} {t : TypeId} (h : w1.heap[b']? = some (.cells cs t (0, 0))) (hn : b' ≠ b) (v0 v1 v2 v3 v4 v5 v6 v7 v8 v9 : Value) :
    ((((((((((w1.setCell ⟨b, 0, none⟩ v0).setCell ⟨b, 1, none⟩ v1).setCell ⟨b, 2, none⟩ v2).setCell ⟨b, 3, none⟩ v3).setCell ⟨b, 4, none⟩ v4).setCell ⟨b, 5, none⟩ v5).setCell ⟨b, 6, none⟩ v6).setCell ⟨b, 7, none⟩ v7).setCell ⟨b, 8, none⟩ v8).setCell ⟨b, 9, none⟩ v9).heap[b']? = some (.cells cs t (0, 0)) :=
  blk_far (p := ⟨b, 9, none⟩) (blk_far (p := ⟨b, 8, none⟩) (blk_far (p := ⟨b, 7, none⟩) (blk_far (p := ⟨b, 6, none⟩) (blk_far (p := ⟨b, 5, none⟩) (blk_far (p := ⟨b, 4, none⟩) (blk_far (p := ⟨b, 3, none⟩) (blk_far (p := ⟨b, 2, none⟩) (blk_far (p := ⟨b, 1, none⟩) (blk_far (p := ⟨b, 0, none⟩) h hn v0) hn v1) hn v2) hn v3) hn v4) hn v5) hn v6) hn v7) hn v8) hn v9
/-- A number of a row or column that is permitted. -/
def perm (n : Int) : Bool := decide (0 ≤ n) && decide (n < 1073741824)
theorem perm_eq (n : Int) : cellref_permitted.f n = some (perm n) := by
  unfold cellref_permitted.f perm
  by_cases h : 0 ≤ n
  · rw [if_pos h]; simp [h]
  · rw [if_neg h]; simp [h]
def cellref_fitting.f (a0_0 : ByteArray) (a0_1 : Int) (a0_2 : Int) (a0_3 : Int) (a0_4 : Int) (a0_5 : Int) (a0_6 : Bool) (a0_7 : Bool) (a0_8 : Bool) (a0_9 : Bool) : Option (ByteArray × Int × Int × Int × Int × Int × Bool × Bool × Bool × Bool) :=
  (cellref_meaning.f a0_0 a0_1 a0_2 a0_3 a0_4 a0_5 a0_6 a0_7 a0_8 a0_9).bind fun m =>
  if (perm m.2.2.1 && perm m.2.2.2.1 && perm m.2.2.2.2.1 && perm m.2.2.2.2.2.1) = true then some m else some (⟨#[]⟩, 4, 0, 0, 0, 0, false, false, false, false)
set_option maxHeartbeats 4000000 in
set_option maxRecDepth 100000 in
theorem cellref_fitting.calls (a0_0 : ByteArray) (a0_1 : Int) (a0_2 : Int) (a0_3 : Int) (a0_4 : Int) (a0_5 : Int) (a0_6 : Bool) (a0_7 : Bool) (a0_8 : Bool) (a0_9 : Bool) (r1 : ByteArray) (r2 : Int) (r3 : Int) (r4 : Int) (r5 : Int) (r6 : Int) (r7 : Bool) (r8 : Bool) (r9 : Bool) (r10 : Bool) (w : World) (hGl : Gl w) (h : cellref_fitting.f a0_0 a0_1 a0_2 a0_3 a0_4 a0_5 a0_6 a0_7 a0_8 a0_9 = some (r1, r2, r3, r4, r5, r6, r7, r8, r9, r10)) :
    Calls Tryd.prog 48 #[.agg #[.string a0_0, .int .i64 a0_1, .int .i64 a0_2, .int .i64 a0_3, .int .i64 a0_4, .int .i64 a0_5, .bool a0_6, .bool a0_7, .bool a0_8, .bool a0_9]] w fun e w' => e = .returned (.agg #[.string r1, .int .i64 r2, .int .i64 r3, .int .i64 r4, .int .i64 r5, .int .i64 r6, .bool r7, .bool r8, .bool r9, .bool r10]) ∧ Below w.heap.size w w' := by
  obtain ⟨⟨m1, m2, m3, m4, m5, m6, m7, m8, m9, m10⟩, hm, h2⟩ := Option.bind_eq_some_iff.1 h
  have HM := Aside0.mk hm
  have HR := Aside0.mk h2
  clear h h2 hm
  go_enter Tryd.func48, Tryd.ntmps48
  go_wp2_with fail
  have hW0 := below_alloc (below_alloc (Below.refl w.heap.size w) (Obj.cells #[.string a0_0, .int .i64 a0_1, .int .i64 a0_2, .int .i64 a0_3, .int .i64 a0_4, .int .i64 a0_5, .bool a0_6, .bool a0_7, .bool a0_8, .bool a0_9] 44)) (Obj.cells #[.string ⟨#[]⟩, .int .i64 0, .int .i64 0, .int .i64 0, .int .i64 0, .int .i64 0, .bool false, .bool false, .bool false, .bool false] 44)
  have hZ0 := blk_new (w.alloc (Obj.cells #[.string a0_0, .int .i64 a0_1, .int .i64 a0_2, .int .i64 a0_3, .int .i64 a0_4, .int .i64 a0_5, .bool a0_6, .bool a0_7, .bool a0_8, .bool a0_9] 44)) (Obj.cells #[.string ⟨#[]⟩, .int .i64 0, .int .i64 0, .int .i64 0, .int .i64 0, .int .i64 0, .bool false, .bool false, .bool false, .bool false] 44)
  have hK0 := blk_alloc (blk_new w (Obj.cells #[.string a0_0, .int .i64 a0_1, .int .i64 a0_2, .int .i64 a0_3, .int .i64 a0_4, .int .i64 a0_5, .bool a0_6, .bool a0_7, .bool a0_8, .bool a0_9] 44)) (Obj.cells #[.string ⟨#[]⟩, .int .i64 0, .int .i64 0, .int .i64 0, .int .i64 0, .int .i64 0, .bool false, .bool false, .bool false, .bool false] 44)
  have hS : (w.alloc (Obj.cells #[.string a0_0, .int .i64 a0_1, .int .i64 a0_2, .int .i64 a0_3, .int .i64 a0_4, .int .i64 a0_5, .bool a0_6, .bool a0_7, .bool a0_8, .bool a0_9] 44)).heap.size = w.heap.size + 1 := by simp
  rw [hS] at hZ0
  refine (cellref_meaning.calls _ _ _ _ _ _ _ _ _ _ _ _ _ _ _ _ _ _ _ _ _ (gl_below hGl hW0) HM.out).mono ?_
  rintro e w1 ⟨rfl, hb1⟩
  have HW1 := Aside0.mk (below_step hW0 hb1)
  have HK1 := Aside0.mk (blk_below hK0 hb1)
  have HZ1 := Aside0.mk (blk_below hZ0 hb1)
  clear hW0 hZ0 hK0 hS hb1
  have kc0 := (blk_cell HK1.out 0).trans rfl
  have kf0 := blk_frozen HK1.out 0
  have kc1 := (blk_cell HK1.out 1).trans rfl
  have kf1 := blk_frozen HK1.out 1
  have kc2 := (blk_cell HK1.out 2).trans rfl
  have kf2 := blk_frozen HK1.out 2
  have kc3 := (blk_cell HK1.out 3).trans rfl
  have kf3 := blk_frozen HK1.out 3
  have kc4 := (blk_cell HK1.out 4).trans rfl
  have kf4 := blk_frozen HK1.out 4
  have kc5 := (blk_cell HK1.out 5).trans rfl
  have kf5 := blk_frozen HK1.out 5
  have kc6 := (blk_cell HK1.out 6).trans rfl
  have kf6 := blk_frozen HK1.out 6
  have kc7 := (blk_cell HK1.out 7).trans rfl
  have kf7 := blk_frozen HK1.out 7
  have kc8 := (blk_cell HK1.out 8).trans rfl
  have kf8 := blk_frozen HK1.out 8
  have kc9 := (blk_cell HK1.out 9).trans rfl
  have kf9 := blk_frozen HK1.out 9
  go_wp2_with fail
  clear kc0 kf0 kc1 kf1 kc2 kf2 kc3 kf3 kc4 kf4 kc5 kf5 kc6 kf6 kc7 kf7 kc8 kf8 kc9 kf9
  obtain ⟨hf, hw⟩ := store10 (b := w.heap.size) HK1.out HW1.out (Nat.le_refl _) (.string m1) (.int .i64 m2) (.int .i64 m3) (.int .i64 m4) (.int .i64 m5) (.int .i64 m6) (.bool m7) (.bool m8) (.bool m9) (.bool m10)
  have hz := far10 (b := w.heap.size) HZ1.out (by omega) (.string m1) (.int .i64 m2) (.int .i64 m3) (.int .i64 m4) (.int .i64 m5) (.int .i64 m6) (.bool m7) (.bool m8) (.bool m9) (.bool m10)
  obtain ⟨w2, hw2⟩ : ∃ w2, w2 = ((((((((((w1.setCell ⟨w.heap.size, 0, none⟩ (.string m1)).setCell ⟨w.heap.size, 1, none⟩ (.int .i64 m2)).setCell ⟨w.heap.size, 2, none⟩ (.int .i64 m3)).setCell ⟨w.heap.size, 3, none⟩ (.int .i64 m4)).setCell ⟨w.heap.size, 4, none⟩ (.int .i64 m5)).setCell ⟨w.heap.size, 5, none⟩ (.int .i64 m6)).setCell ⟨w.heap.size, 6, none⟩ (.bool m7)).setCell ⟨w.heap.size, 7, none⟩ (.bool m8)).setCell ⟨w.heap.size, 8, none⟩ (.bool m9)).setCell ⟨w.heap.size, 9, none⟩ (.bool m10)) := ⟨_, rfl⟩
  rw [← hw2] at hf hw hz ⊢
  clear hw2 HK1 HW1 HZ1
  have HK2 := Aside0.mk hf
  have HW2 := Aside0.mk hw
  have HZ2 := Aside0.mk hz
  clear hf hw hz
  have c2 := (blk_cell HK2.out 2).trans rfl
  refine (cellref_permitted.calls _ _ _ (gl_below hGl HW2.out) (perm_eq m3)).mono ?_
  rintro e w3 ⟨rfl, hd⟩
  have HW3 : Aside0 (Below w.heap.size w w3) := by obtain ⟨q, rfl⟩ := hd; exact ⟨pw_below_drewN HW2.out q⟩
  have HK3 : Aside0 (w3.heap[w.heap.size]? = some (.cells #[.string m1, .int .i64 m2, .int .i64 m3, .int .i64 m4, .int .i64 m5, .int .i64 m6, .bool m7, .bool m8, .bool m9, .bool m10] 44 (0, 0))) := by obtain ⟨q, rfl⟩ := hd; exact ⟨blk_drewN HK2.out q⟩
  have HZ3 : Aside0 (w3.heap[w.heap.size + 1]? = some (.cells #[.string ⟨#[]⟩, .int .i64 0, .int .i64 0, .int .i64 0, .int .i64 0, .int .i64 0, .bool false, .bool false, .bool false, .bool false] 44 (0, 0))) := by obtain ⟨q, rfl⟩ := hd; exact ⟨blk_drewN HZ2.out q⟩
  clear hd HW2 HK2 HZ2
  cases hp2 : perm m3
  · have hr := HR.out
    rw [if_neg (by simp [*])] at hr
    simp only [Option.some.injEq, Prod.mk.injEq] at hr
    obtain ⟨rfl, rfl, rfl, rfl, rfl, rfl, rfl, rfl, rfl, rfl⟩ := hr
    clear HR
    have kz0 := (blk_cell HZ3.out 0).trans rfl
    have fz0 := blk_frozen HZ3.out 0
    have kz1 := (blk_cell HZ3.out 1).trans rfl
    have fz1 := blk_frozen HZ3.out 1
    have kz2 := (blk_cell HZ3.out 2).trans rfl
    have fz2 := blk_frozen HZ3.out 2
    have kz3 := (blk_cell HZ3.out 3).trans rfl
    have fz3 := blk_frozen HZ3.out 3
    have kz4 := (blk_cell HZ3.out 4).trans rfl
    have fz4 := blk_frozen HZ3.out 4
    have kz5 := (blk_cell HZ3.out 5).trans rfl
    have fz5 := blk_frozen HZ3.out 5
    have kz6 := (blk_cell HZ3.out 6).trans rfl
    have fz6 := blk_frozen HZ3.out 6
    have kz7 := (blk_cell HZ3.out 7).trans rfl
    have fz7 := blk_frozen HZ3.out 7
    have kz8 := (blk_cell HZ3.out 8).trans rfl
    have fz8 := blk_frozen HZ3.out 8
    have kz9 := (blk_cell HZ3.out 9).trans rfl
    have fz9 := blk_frozen HZ3.out 9
    go_wp2
    clear kz0 fz0 kz1 fz1 kz2 fz2 kz3 fz3 kz4 fz4 kz5 fz5 kz6 fz6 kz7 fz7 kz8 fz8 kz9 fz9
    obtain ⟨hf, hw⟩ := store10 (b := w.heap.size + 1) HZ3.out HW3.out (Nat.le_succ _) (.string ⟨#[]⟩) (.int .i64 4) (.int .i64 0) (.int .i64 0) (.int .i64 0) (.int .i64 0) (.bool false) (.bool false) (.bool false) (.bool false)
    obtain ⟨wz, hwz⟩ : ∃ wz, wz = ((((((((((w3.setCell ⟨w.heap.size + 1, 0, none⟩ (.string ⟨#[]⟩)).setCell ⟨w.heap.size + 1, 1, none⟩ (.int .i64 4)).setCell ⟨w.heap.size + 1, 2, none⟩ (.int .i64 0)).setCell ⟨w.heap.size + 1, 3, none⟩ (.int .i64 0)).setCell ⟨w.heap.size + 1, 4, none⟩ (.int .i64 0)).setCell ⟨w.heap.size + 1, 5, none⟩ (.int .i64 0)).setCell ⟨w.heap.size + 1, 6, none⟩ (.bool false)).setCell ⟨w.heap.size + 1, 7, none⟩ (.bool false)).setCell ⟨w.heap.size + 1, 8, none⟩ (.bool false)).setCell ⟨w.heap.size + 1, 9, none⟩ (.bool false)) := ⟨_, rfl⟩
    rw [← hwz] at hf hw ⊢
    clear hwz
    refine bodyPost_ret (results_cell_row rfl _ _ (w.heap.size + 1) 44 #[.string ⟨#[]⟩, .int .i64 4, .int .i64 0, .int .i64 0, .int .i64 0, .int .i64 0, .bool false, .bool false, .bool false, .bool false] (0, 0) _ rfl hf Tryd.underlying44 rfl (by kernel_rfl)) rfl ?_
    exact ⟨rfl, hw⟩
  · have c3 := (blk_cell HK3.out 3).trans rfl
    go_wp2_with fail
    clear c3
    refine (cellref_permitted.calls _ _ _ (gl_below hGl HW3.out) (perm_eq m4)).mono ?_
    rintro e w4 ⟨rfl, hd⟩
    have HW4 : Aside0 (Below w.heap.size w w4) := by obtain ⟨q, rfl⟩ := hd; exact ⟨pw_below_drewN HW3.out q⟩
    have HK4 : Aside0 (w4.heap[w.heap.size]? = some (.cells #[.string m1, .int .i64 m2, .int .i64 m3, .int .i64 m4, .int .i64 m5, .int .i64 m6, .bool m7, .bool m8, .bool m9, .bool m10] 44 (0, 0))) := by obtain ⟨q, rfl⟩ := hd; exact ⟨blk_drewN HK3.out q⟩
    have HZ4 : Aside0 (w4.heap[w.heap.size + 1]? = some (.cells #[.string ⟨#[]⟩, .int .i64 0, .int .i64 0, .int .i64 0, .int .i64 0, .int .i64 0, .bool false, .bool false, .bool false, .bool false] 44 (0, 0))) := by obtain ⟨q, rfl⟩ := hd; exact ⟨blk_drewN HZ3.out q⟩
    clear hd HW3 HK3 HZ3
    cases hp3 : perm m4
    · have hr := HR.out
      rw [if_neg (by simp [*])] at hr
      simp only [Option.some.injEq, Prod.mk.injEq] at hr
      obtain ⟨rfl, rfl, rfl, rfl, rfl, rfl, rfl, rfl, rfl, rfl⟩ := hr
      clear HR
      have kz0 := (blk_cell HZ4.out 0).trans rfl
      have fz0 := blk_frozen HZ4.out 0
      have kz1 := (blk_cell HZ4.out 1).trans rfl
      have fz1 := blk_frozen HZ4.out 1
      have kz2 := (blk_cell HZ4.out 2).trans rfl
      have fz2 := blk_frozen HZ4.out 2
      have kz3 := (blk_cell HZ4.out 3).trans rfl
      have fz3 := blk_frozen HZ4.out 3
      have kz4 := (blk_cell HZ4.out 4).trans rfl
      have fz4 := blk_frozen HZ4.out 4
      have kz5 := (blk_cell HZ4.out 5).trans rfl
      have fz5 := blk_frozen HZ4.out 5
      have kz6 := (blk_cell HZ4.out 6).trans rfl
      have fz6 := blk_frozen HZ4.out 6
      have kz7 := (blk_cell HZ4.out 7).trans rfl
      have fz7 := blk_frozen HZ4.out 7
      have kz8 := (blk_cell HZ4.out 8).trans rfl
      have fz8 := blk_frozen HZ4.out 8
      have kz9 := (blk_cell HZ4.out 9).trans rfl
      have fz9 := blk_frozen HZ4.out 9
      go_wp2
      clear kz0 fz0 kz1 fz1 kz2 fz2 kz3 fz3 kz4 fz4 kz5 fz5 kz6 fz6 kz7 fz7 kz8 fz8 kz9 fz9
      obtain ⟨hf, hw⟩ := store10 (b := w.heap.size + 1) HZ4.out HW4.out (Nat.le_succ _) (.string ⟨#[]⟩) (.int .i64 4) (.int .i64 0) (.int .i64 0) (.int .i64 0) (.int .i64 0) (.bool false) (.bool false) (.bool false) (.bool false)
      obtain ⟨wz, hwz⟩ : ∃ wz, wz = ((((((((((w4.setCell ⟨w.heap.size + 1, 0, none⟩ (.string ⟨#[]⟩)).setCell ⟨w.heap.size + 1, 1, none⟩ (.int .i64 4)).setCell ⟨w.heap.size + 1, 2, none⟩ (.int .i64 0)).setCell ⟨w.heap.size + 1, 3, none⟩ (.int .i64 0)).setCell ⟨w.heap.size + 1, 4, none⟩ (.int .i64 0)).setCell ⟨w.heap.size + 1, 5, none⟩ (.int .i64 0)).setCell ⟨w.heap.size + 1, 6, none⟩ (.bool false)).setCell ⟨w.heap.size + 1, 7, none⟩ (.bool false)).setCell ⟨w.heap.size + 1, 8, none⟩ (.bool false)).setCell ⟨w.heap.size + 1, 9, none⟩ (.bool false)) := ⟨_, rfl⟩
      rw [← hwz] at hf hw ⊢
      clear hwz
      refine bodyPost_ret (results_cell_row rfl _ _ (w.heap.size + 1) 44 #[.string ⟨#[]⟩, .int .i64 4, .int .i64 0, .int .i64 0, .int .i64 0, .int .i64 0, .bool false, .bool false, .bool false, .bool false] (0, 0) _ rfl hf Tryd.underlying44 rfl (by kernel_rfl)) rfl ?_
      exact ⟨rfl, hw⟩
    · have c4 := (blk_cell HK4.out 4).trans rfl
      go_wp2_with fail
      clear c4
      refine (cellref_permitted.calls _ _ _ (gl_below hGl HW4.out) (perm_eq m5)).mono ?_
      rintro e w5 ⟨rfl, hd⟩
      have HW5 : Aside0 (Below w.heap.size w w5) := by obtain ⟨q, rfl⟩ := hd; exact ⟨pw_below_drewN HW4.out q⟩
      have HK5 : Aside0 (w5.heap[w.heap.size]? = some (.cells #[.string m1, .int .i64 m2, .int .i64 m3, .int .i64 m4, .int .i64 m5, .int .i64 m6, .bool m7, .bool m8, .bool m9, .bool m10] 44 (0, 0))) := by obtain ⟨q, rfl⟩ := hd; exact ⟨blk_drewN HK4.out q⟩
      have HZ5 : Aside0 (w5.heap[w.heap.size + 1]? = some (.cells #[.string ⟨#[]⟩, .int .i64 0, .int .i64 0, .int .i64 0, .int .i64 0, .int .i64 0, .bool false, .bool false, .bool false, .bool false] 44 (0, 0))) := by obtain ⟨q, rfl⟩ := hd; exact ⟨blk_drewN HZ4.out q⟩
      clear hd HW4 HK4 HZ4
      cases hp4 : perm m5
      · have hr := HR.out
        rw [if_neg (by simp [*])] at hr
        simp only [Option.some.injEq, Prod.mk.injEq] at hr
        obtain ⟨rfl, rfl, rfl, rfl, rfl, rfl, rfl, rfl, rfl, rfl⟩ := hr
        clear HR
        have kz0 := (blk_cell HZ5.out 0).trans rfl
        have fz0 := blk_frozen HZ5.out 0
        have kz1 := (blk_cell HZ5.out 1).trans rfl
        have fz1 := blk_frozen HZ5.out 1
        have kz2 := (blk_cell HZ5.out 2).trans rfl
        have fz2 := blk_frozen HZ5.out 2
        have kz3 := (blk_cell HZ5.out 3).trans rfl
        have fz3 := blk_frozen HZ5.out 3
        have kz4 := (blk_cell HZ5.out 4).trans rfl
        have fz4 := blk_frozen HZ5.out 4
        have kz5 := (blk_cell HZ5.out 5).trans rfl
        have fz5 := blk_frozen HZ5.out 5
        have kz6 := (blk_cell HZ5.out 6).trans rfl
        have fz6 := blk_frozen HZ5.out 6
        have kz7 := (blk_cell HZ5.out 7).trans rfl
        have fz7 := blk_frozen HZ5.out 7
        have kz8 := (blk_cell HZ5.out 8).trans rfl
        have fz8 := blk_frozen HZ5.out 8
        have kz9 := (blk_cell HZ5.out 9).trans rfl
        have fz9 := blk_frozen HZ5.out 9
        go_wp2
        clear kz0 fz0 kz1 fz1 kz2 fz2 kz3 fz3 kz4 fz4 kz5 fz5 kz6 fz6 kz7 fz7 kz8 fz8 kz9 fz9
        obtain ⟨hf, hw⟩ := store10 (b := w.heap.size + 1) HZ5.out HW5.out (Nat.le_succ _) (.string ⟨#[]⟩) (.int .i64 4) (.int .i64 0) (.int .i64 0) (.int .i64 0) (.int .i64 0) (.bool false) (.bool false) (.bool false) (.bool false)
        obtain ⟨wz, hwz⟩ : ∃ wz, wz = ((((((((((w5.setCell ⟨w.heap.size + 1, 0, none⟩ (.string ⟨#[]⟩)).setCell ⟨w.heap.size + 1, 1, none⟩ (.int .i64 4)).setCell ⟨w.heap.size + 1, 2, none⟩ (.int .i64 0)).setCell ⟨w.heap.size + 1, 3, none⟩ (.int .i64 0)).setCell ⟨w.heap.size + 1, 4, none⟩ (.int .i64 0)).setCell ⟨w.heap.size + 1, 5, none⟩ (.int .i64 0)).setCell ⟨w.heap.size + 1, 6, none⟩ (.bool false)).setCell ⟨w.heap.size + 1, 7, none⟩ (.bool false)).setCell ⟨w.heap.size + 1, 8, none⟩ (.bool false)).setCell ⟨w.heap.size + 1, 9, none⟩ (.bool false)) := ⟨_, rfl⟩
        rw [← hwz] at hf hw ⊢
        clear hwz
        refine bodyPost_ret (results_cell_row rfl _ _ (w.heap.size + 1) 44 #[.string ⟨#[]⟩, .int .i64 4, .int .i64 0, .int .i64 0, .int .i64 0, .int .i64 0, .bool false, .bool false, .bool false, .bool false] (0, 0) _ rfl hf Tryd.underlying44 rfl (by kernel_rfl)) rfl ?_
        exact ⟨rfl, hw⟩
      · have c5 := (blk_cell HK5.out 5).trans rfl
        go_wp2_with fail
        clear c5
        refine (cellref_permitted.calls _ _ _ (gl_below hGl HW5.out) (perm_eq m6)).mono ?_
        rintro e w6 ⟨rfl, hd⟩
        have HW6 : Aside0 (Below w.heap.size w w6) := by obtain ⟨q, rfl⟩ := hd; exact ⟨pw_below_drewN HW5.out q⟩
        have HK6 : Aside0 (w6.heap[w.heap.size]? = some (.cells #[.string m1, .int .i64 m2, .int .i64 m3, .int .i64 m4, .int .i64 m5, .int .i64 m6, .bool m7, .bool m8, .bool m9, .bool m10] 44 (0, 0))) := by obtain ⟨q, rfl⟩ := hd; exact ⟨blk_drewN HK5.out q⟩
        have HZ6 : Aside0 (w6.heap[w.heap.size + 1]? = some (.cells #[.string ⟨#[]⟩, .int .i64 0, .int .i64 0, .int .i64 0, .int .i64 0, .int .i64 0, .bool false, .bool false, .bool false, .bool false] 44 (0, 0))) := by obtain ⟨q, rfl⟩ := hd; exact ⟨blk_drewN HZ5.out q⟩
        clear hd HW5 HK5 HZ5
        cases hp5 : perm m6
        · have hr := HR.out
          rw [if_neg (by simp [*])] at hr
          simp only [Option.some.injEq, Prod.mk.injEq] at hr
          obtain ⟨rfl, rfl, rfl, rfl, rfl, rfl, rfl, rfl, rfl, rfl⟩ := hr
          clear HR
          have kz0 := (blk_cell HZ6.out 0).trans rfl
          have fz0 := blk_frozen HZ6.out 0
          have kz1 := (blk_cell HZ6.out 1).trans rfl
          have fz1 := blk_frozen HZ6.out 1
          have kz2 := (blk_cell HZ6.out 2).trans rfl
          have fz2 := blk_frozen HZ6.out 2
          have kz3 := (blk_cell HZ6.out 3).trans rfl
          have fz3 := blk_frozen HZ6.out 3
          have kz4 := (blk_cell HZ6.out 4).trans rfl
          have fz4 := blk_frozen HZ6.out 4
          have kz5 := (blk_cell HZ6.out 5).trans rfl
          have fz5 := blk_frozen HZ6.out 5
          have kz6 := (blk_cell HZ6.out 6).trans rfl
          have fz6 := blk_frozen HZ6.out 6
          have kz7 := (blk_cell HZ6.out 7).trans rfl
          have fz7 := blk_frozen HZ6.out 7
          have kz8 := (blk_cell HZ6.out 8).trans rfl
          have fz8 := blk_frozen HZ6.out 8
          have kz9 := (blk_cell HZ6.out 9).trans rfl
          have fz9 := blk_frozen HZ6.out 9
          go_wp2
          clear kz0 fz0 kz1 fz1 kz2 fz2 kz3 fz3 kz4 fz4 kz5 fz5 kz6 fz6 kz7 fz7 kz8 fz8 kz9 fz9
          obtain ⟨hf, hw⟩ := store10 (b := w.heap.size + 1) HZ6.out HW6.out (Nat.le_succ _) (.string ⟨#[]⟩) (.int .i64 4) (.int .i64 0) (.int .i64 0) (.int .i64 0) (.int .i64 0) (.bool false) (.bool false) (.bool false) (.bool false)
          obtain ⟨wz, hwz⟩ : ∃ wz, wz = ((((((((((w6.setCell ⟨w.heap.size + 1, 0, none⟩ (.string ⟨#[]⟩)).setCell ⟨w.heap.size + 1, 1, none⟩ (.int .i64 4)).setCell ⟨w.heap.size + 1, 2, none⟩ (.int .i64 0)).setCell ⟨w.heap.size + 1, 3, none⟩ (.int .i64 0)).setCell ⟨w.heap.size + 1, 4, none⟩ (.int .i64 0)).setCell ⟨w.heap.size + 1, 5, none⟩ (.int .i64 0)).setCell ⟨w.heap.size + 1, 6, none⟩ (.bool false)).setCell ⟨w.heap.size + 1, 7, none⟩ (.bool false)).setCell ⟨w.heap.size + 1, 8, none⟩ (.bool false)).setCell ⟨w.heap.size + 1, 9, none⟩ (.bool false)) := ⟨_, rfl⟩
          rw [← hwz] at hf hw ⊢
          clear hwz
          refine bodyPost_ret (results_cell_row rfl _ _ (w.heap.size + 1) 44 #[.string ⟨#[]⟩, .int .i64 4, .int .i64 0, .int .i64 0, .int .i64 0, .int .i64 0, .bool false, .bool false, .bool false, .bool false] (0, 0) _ rfl hf Tryd.underlying44 rfl (by kernel_rfl)) rfl ?_
          exact ⟨rfl, hw⟩
        · have hr := HR.out
          rw [if_pos (by simp [*])] at hr
          simp only [Option.some.injEq, Prod.mk.injEq] at hr
          obtain ⟨rfl, rfl, rfl, rfl, rfl, rfl, rfl, rfl, rfl, rfl⟩ := hr
          clear HR
          have kz0 := (blk_cell HZ6.out 0).trans rfl
          have fz0 := blk_frozen HZ6.out 0
          have kz1 := (blk_cell HZ6.out 1).trans rfl
          have fz1 := blk_frozen HZ6.out 1
          have kz2 := (blk_cell HZ6.out 2).trans rfl
          have fz2 := blk_frozen HZ6.out 2
          have kz3 := (blk_cell HZ6.out 3).trans rfl
          have fz3 := blk_frozen HZ6.out 3
          have kz4 := (blk_cell HZ6.out 4).trans rfl
          have fz4 := blk_frozen HZ6.out 4
          have kz5 := (blk_cell HZ6.out 5).trans rfl
          have fz5 := blk_frozen HZ6.out 5
          have kz6 := (blk_cell HZ6.out 6).trans rfl
          have fz6 := blk_frozen HZ6.out 6
          have kz7 := (blk_cell HZ6.out 7).trans rfl
          have fz7 := blk_frozen HZ6.out 7
          have kz8 := (blk_cell HZ6.out 8).trans rfl
          have fz8 := blk_frozen HZ6.out 8
          have kz9 := (blk_cell HZ6.out 9).trans rfl
          have fz9 := blk_frozen HZ6.out 9
          have kc0 := (blk_cell HK6.out 0).trans rfl
          have kf0 := blk_frozen HK6.out 0
          have kc1 := (blk_cell HK6.out 1).trans rfl
          have kf1 := blk_frozen HK6.out 1
          have kc2 := (blk_cell HK6.out 2).trans rfl
          have kf2 := blk_frozen HK6.out 2
          have kc3 := (blk_cell HK6.out 3).trans rfl
          have kf3 := blk_frozen HK6.out 3
          have kc4 := (blk_cell HK6.out 4).trans rfl
          have kf4 := blk_frozen HK6.out 4
          have kc5 := (blk_cell HK6.out 5).trans rfl
          have kf5 := blk_frozen HK6.out 5
          have kc6 := (blk_cell HK6.out 6).trans rfl
          have kf6 := blk_frozen HK6.out 6
          have kc7 := (blk_cell HK6.out 7).trans rfl
          have kf7 := blk_frozen HK6.out 7
          have kc8 := (blk_cell HK6.out 8).trans rfl
          have kf8 := blk_frozen HK6.out 8
          have kc9 := (blk_cell HK6.out 9).trans rfl
          have kf9 := blk_frozen HK6.out 9
          go_wp2
          clear kz0 fz0 kz1 fz1 kz2 fz2 kz3 fz3 kz4 fz4 kz5 fz5 kz6 fz6 kz7 fz7 kz8 fz8 kz9 fz9
          clear kc0 kf0 kc1 kf1 kc2 kf2 kc3 kf3 kc4 kf4 kc5 kf5 kc6 kf6 kc7 kf7 kc8 kf8 kc9 kf9
          obtain ⟨hf, hw⟩ := store10 (b := w.heap.size + 1) HZ6.out HW6.out (Nat.le_succ _) (.string m1) (.int .i64 m2) (.int .i64 m3) (.int .i64 m4) (.int .i64 m5) (.int .i64 m6) (.bool m7) (.bool m8) (.bool m9) (.bool m10)
          obtain ⟨wz, hwz⟩ : ∃ wz, wz = ((((((((((w6.setCell ⟨w.heap.size + 1, 0, none⟩ (.string m1)).setCell ⟨w.heap.size + 1, 1, none⟩ (.int .i64 m2)).setCell ⟨w.heap.size + 1, 2, none⟩ (.int .i64 m3)).setCell ⟨w.heap.size + 1, 3, none⟩ (.int .i64 m4)).setCell ⟨w.heap.size + 1, 4, none⟩ (.int .i64 m5)).setCell ⟨w.heap.size + 1, 5, none⟩ (.int .i64 m6)).setCell ⟨w.heap.size + 1, 6, none⟩ (.bool m7)).setCell ⟨w.heap.size + 1, 7, none⟩ (.bool m8)).setCell ⟨w.heap.size + 1, 8, none⟩ (.bool m9)).setCell ⟨w.heap.size + 1, 9, none⟩ (.bool m10)) := ⟨_, rfl⟩
          rw [← hwz] at hf hw ⊢
          clear hwz
          refine bodyPost_ret (results_cell_row rfl _ _ (w.heap.size + 1) 44 #[.string m1, .int .i64 m2, .int .i64 m3, .int .i64 m4, .int .i64 m5, .int .i64 m6, .bool m7, .bool m8, .bool m9, .bool m10] (0, 0) _ rfl hf Tryd.underlying44 rfl (by kernel_rfl)) rfl ?_
          exact ⟨rfl, hw⟩
/-- A number that goes along, or stays. -/
def gone (abs : Bool) (n d : Int) : Int := if abs = true then n else wrap64 (n + d)
def cellref_Copied.f (k : Nat) (a0_0 : ByteArray) (a0_1 : Int) (a0_2 : Int) (a0_3 : Int) (a0_4 : Int) (a0_5 : Int) (a0_6 : Bool) (a0_7 : Bool) (a0_8 : Bool) (a0_9 : Bool) (a1 : Int) (a2 : Int) : Option (ByteArray × Int × Int × Int × Int × Int × Bool × Bool × Bool × Bool × Int) :=
  (cellref_Check.f k a0_0 a0_1 a0_2 a0_3 a0_4 a0_5 a0_6 a0_7 a0_8 a0_9).bind fun e =>
  if e = 0 then
    (cellref_far.f a1).bind fun b1 => (cellref_far.f a2).bind fun b2 =>
    if (b1 || b2) = true then some (⟨#[]⟩, 0, 0, 0, 0, 0, false, false, false, false, 2)
    else
      (cellref_meaning.f a0_0 a0_1 (gone a0_6 a0_2 a1) (gone a0_7 a0_3 a2) (gone a0_8 a0_4 a1) (gone a0_9 a0_5 a2) a0_6 a0_7 a0_8 a0_9).bind fun m =>
      (cellref_ordered.f m.1 m.2.1 m.2.2.1 m.2.2.2.1 m.2.2.2.2.1 m.2.2.2.2.2.1 m.2.2.2.2.2.2.1 m.2.2.2.2.2.2.2.1 m.2.2.2.2.2.2.2.2.1 m.2.2.2.2.2.2.2.2.2).bind fun o =>
      (cellref_fitting.f o.1 o.2.1 o.2.2.1 o.2.2.2.1 o.2.2.2.2.1 o.2.2.2.2.2.1 o.2.2.2.2.2.2.1 o.2.2.2.2.2.2.2.1 o.2.2.2.2.2.2.2.2.1 o.2.2.2.2.2.2.2.2.2).bind fun z =>
      some (z.1, z.2.1, z.2.2.1, z.2.2.2.1, z.2.2.2.2.1, z.2.2.2.2.2.1, z.2.2.2.2.2.2.1, z.2.2.2.2.2.2.2.1, z.2.2.2.2.2.2.2.2.1, z.2.2.2.2.2.2.2.2.2, 0)
  else some (⟨#[]⟩, 0, 0, 0, 0, 0, false, false, false, false, e)

theorem cellref_Copied.mono (a0_0 : ByteArray) (a0_1 a0_2 a0_3 a0_4 a0_5 : Int) (a0_6 a0_7 a0_8 a0_9 : Bool) (a1 a2 : Int) (k : Nat) : LeO (cellref_Copied.f k a0_0 a0_1 a0_2 a0_3 a0_4 a0_5 a0_6 a0_7 a0_8 a0_9 a1 a2) (cellref_Copied.f (k + 1) a0_0 a0_1 a0_2 a0_3 a0_4 a0_5 a0_6 a0_7 a0_8 a0_9 a1 a2) := by
  intro r h
  unfold cellref_Copied.f at h ⊢
  obtain ⟨e, he, h2⟩ := Option.bind_eq_some_iff.1 h
  rw [cellref_Check.mono _ _ _ _ _ _ _ _ _ _ k _ he]
  exact h2
def cntUp : Value → Nat | .int _ i => (4 - i).toNat | _ => 0
set_option maxHeartbeats 4000000 in
set_option maxRecDepth 100000 in
theorem cellref_Copied.calls (k : Nat) (a0_0 : ByteArray) (a0_1 : Int) (a0_2 : Int) (a0_3 : Int) (a0_4 : Int) (a0_5 : Int) (a0_6 : Bool) (a0_7 : Bool) (a0_8 : Bool) (a0_9 : Bool) (a1 : Int) (a2 : Int) (r1 : ByteArray) (r2 : Int) (r3 : Int) (r4 : Int) (r5 : Int) (r6 : Int) (r7 : Bool) (r8 : Bool) (r9 : Bool) (r10 : Bool) (r11 : Int) (w : World) (hGl : Gl w) (h : cellref_Copied.f k a0_0 a0_1 a0_2 a0_3 a0_4 a0_5 a0_6 a0_7 a0_8 a0_9 a1 a2 = some (r1, r2, r3, r4, r5, r6, r7, r8, r9, r10, r11)) :
    Calls Tryd.prog 20 #[.agg #[.string a0_0, .int .i64 a0_1, .int .i64 a0_2, .int .i64 a0_3, .int .i64 a0_4, .int .i64 a0_5, .bool a0_6, .bool a0_7, .bool a0_8, .bool a0_9], .int .i64 a1, .int .i64 a2] w fun e w' => e = .returned (.tuple #[.agg #[.string r1, .int .i64 r2, .int .i64 r3, .int .i64 r4, .int .i64 r5, .int .i64 r6, .bool r7, .bool r8, .bool r9, .bool r10], .int .i64 r11]) ∧ Below w.heap.size w w' := by
  obtain ⟨e0, he0, h2⟩ := Option.bind_eq_some_iff.1 h
  have HE := Aside0.mk he0
  have HR := Aside0.mk h2
  clear h h2 he0
  go_enter Tryd.func20, Tryd.ntmps20
  go_wp2_with fail
  have hW0 := below_alloc (below_alloc (Below.refl w.heap.size w) (Obj.cells #[.string a0_0, .int .i64 a0_1, .int .i64 a0_2, .int .i64 a0_3, .int .i64 a0_4, .int .i64 a0_5, .bool a0_6, .bool a0_7, .bool a0_8, .bool a0_9] 44)) (Obj.cells #[.string ⟨#[]⟩, .int .i64 0, .int .i64 0, .int .i64 0, .int .i64 0, .int .i64 0, .bool false, .bool false, .bool false, .bool false] 44)
  have hZ0 := blk_new (w.alloc (Obj.cells #[.string a0_0, .int .i64 a0_1, .int .i64 a0_2, .int .i64 a0_3, .int .i64 a0_4, .int .i64 a0_5, .bool a0_6, .bool a0_7, .bool a0_8, .bool a0_9] 44)) (Obj.cells #[.string ⟨#[]⟩, .int .i64 0, .int .i64 0, .int .i64 0, .int .i64 0, .int .i64 0, .bool false, .bool false, .bool false, .bool false] 44)
  have hK0 := blk_alloc (blk_new w (Obj.cells #[.string a0_0, .int .i64 a0_1, .int .i64 a0_2, .int .i64 a0_3, .int .i64 a0_4, .int .i64 a0_5, .bool a0_6, .bool a0_7, .bool a0_8, .bool a0_9] 44)) (Obj.cells #[.string ⟨#[]⟩, .int .i64 0, .int .i64 0, .int .i64 0, .int .i64 0, .int .i64 0, .bool false, .bool false, .bool false, .bool false] 44)
  have hS : (w.alloc (Obj.cells #[.string a0_0, .int .i64 a0_1, .int .i64 a0_2, .int .i64 a0_3, .int .i64 a0_4, .int .i64 a0_5, .bool a0_6, .bool a0_7, .bool a0_8, .bool a0_9] 44)).heap.size = w.heap.size + 1 := by simp
  rw [hS] at hZ0
  refine (cellref_Check.calls k _ _ _ _ _ _ _ _ _ _ _ _ (gl_below hGl hW0) HE.out).mono ?_
  rintro e w1 ⟨rfl, hb1⟩
  have HW1 := Aside0.mk (below_step hW0 hb1)
  have HK1 := Aside0.mk (blk_below hK0 hb1)
  have HZ1 := Aside0.mk (blk_below hZ0 hb1)
  clear hW0 hZ0 hK0 hS hb1
  have kz0 := (blk_cell HZ1.out 0).trans rfl
  have kz1 := (blk_cell HZ1.out 1).trans rfl
  have kz2 := (blk_cell HZ1.out 2).trans rfl
  have kz3 := (blk_cell HZ1.out 3).trans rfl
  have kz4 := (blk_cell HZ1.out 4).trans rfl
  have kz5 := (blk_cell HZ1.out 5).trans rfl
  have kz6 := (blk_cell HZ1.out 6).trans rfl
  have kz7 := (blk_cell HZ1.out 7).trans rfl
  have kz8 := (blk_cell HZ1.out 8).trans rfl
  have kz9 := (blk_cell HZ1.out 9).trans rfl
  have fz0 := blk_frozen HZ1.out 0
  have fz1 := blk_frozen HZ1.out 1
  have fz2 := blk_frozen HZ1.out 2
  have fz3 := blk_frozen HZ1.out 3
  have fz4 := blk_frozen HZ1.out 4
  have fz5 := blk_frozen HZ1.out 5
  have fz6 := blk_frozen HZ1.out 6
  have fz7 := blk_frozen HZ1.out 7
  have fz8 := blk_frozen HZ1.out 8
  have fz9 := blk_frozen HZ1.out 9
  by_cases he : e0 = 0
  · subst he
    have hr := HR.out
    rw [if_pos rfl] at hr
    obtain ⟨b1, hb1, hr⟩ := Option.bind_eq_some_iff.1 hr
    obtain ⟨b2, hb2, hr⟩ := Option.bind_eq_some_iff.1 hr
    have HB1 := Aside0.mk hb1
    have HB2 := Aside0.mk hb2
    have HR2 := Aside0.mk hr
    clear hr hb1 hb2 HR
    go_wp2_with fail
    refine (cellref_far.calls _ _ _ (gl_below hGl HW1.out) HB1.out).mono ?_
    rintro e w' ⟨rfl, ⟨n, rfl⟩⟩
    cases b1 with
    | true =>
      have hr := HR2.out
      rw [if_pos (by rfl)] at hr
      simp only [Option.some.injEq, Prod.mk.injEq] at hr
      obtain ⟨rfl, rfl, rfl, rfl, rfl, rfl, rfl, rfl, rfl, rfl, rfl⟩ := hr
      clear HR2
      go_wp2
      clear kz0 fz0 kz1 fz1 kz2 fz2 kz3 fz3 kz4 fz4 kz5 fz5 kz6 fz6 kz7 fz7 kz8 fz8 kz9 fz9
      obtain ⟨hf, hw⟩ := store10 (b := w.heap.size + 1) (blk_drewN HZ1.out n) (pw_below_drewN HW1.out n) (Nat.le_succ _) (.string ⟨#[]⟩) (.int .i64 0) (.int .i64 0) (.int .i64 0) (.int .i64 0) (.int .i64 0) (.bool false) (.bool false) (.bool false) (.bool false)
      obtain ⟨w6, hw6⟩ : ∃ w6, w6 = (((((((((((w1.drewN n).setCell ⟨w.heap.size + 1, 0, none⟩ (.string ⟨#[]⟩)).setCell ⟨w.heap.size + 1, 1, none⟩ (.int .i64 0)).setCell ⟨w.heap.size + 1, 2, none⟩ (.int .i64 0)).setCell ⟨w.heap.size + 1, 3, none⟩ (.int .i64 0)).setCell ⟨w.heap.size + 1, 4, none⟩ (.int .i64 0)).setCell ⟨w.heap.size + 1, 5, none⟩ (.int .i64 0)).setCell ⟨w.heap.size + 1, 6, none⟩ (.bool false)).setCell ⟨w.heap.size + 1, 7, none⟩ (.bool false)).setCell ⟨w.heap.size + 1, 8, none⟩ (.bool false)).setCell ⟨w.heap.size + 1, 9, none⟩ (.bool false)) := ⟨_, rfl⟩
      rw [← hw6] at hf hw ⊢
      clear hw6
      refine bodyPost_ret (results_ct rfl _ _ (w.heap.size + 1) 44 #[.string ⟨#[]⟩, .int .i64 0, .int .i64 0, .int .i64 0, .int .i64 0, .int .i64 0, .bool false, .bool false, .bool false, .bool false] (0, 0) _ rfl hf Tryd.underlying44 rfl (by kernel_rfl)) rfl ?_
      exact ⟨rfl, hw⟩
    | false =>
      go_wp2_with fail
      refine (cellref_far.calls _ _ _ (gl_below hGl (pw_below_drewN HW1.out n)) HB2.out).mono ?_
      rintro e w' ⟨rfl, ⟨m, rfl⟩⟩
      cases b2 with
      | true =>
        have hr := HR2.out
        rw [if_pos (by rfl)] at hr
        simp only [Option.some.injEq, Prod.mk.injEq] at hr
        obtain ⟨rfl, rfl, rfl, rfl, rfl, rfl, rfl, rfl, rfl, rfl, rfl⟩ := hr
        clear HR2
        go_wp2
        clear kz0 fz0 kz1 fz1 kz2 fz2 kz3 fz3 kz4 fz4 kz5 fz5 kz6 fz6 kz7 fz7 kz8 fz8 kz9 fz9
        obtain ⟨hf, hw⟩ := store10 (b := w.heap.size + 1) (blk_drewN HZ1.out (n + m)) (pw_below_drewN HW1.out (n + m)) (Nat.le_succ _) (.string ⟨#[]⟩) (.int .i64 0) (.int .i64 0) (.int .i64 0) (.int .i64 0) (.int .i64 0) (.bool false) (.bool false) (.bool false) (.bool false)
        obtain ⟨w6, hw6⟩ : ∃ w6, w6 = (((((((((((w1.drewN (n + m)).setCell ⟨w.heap.size + 1, 0, none⟩ (.string ⟨#[]⟩)).setCell ⟨w.heap.size + 1, 1, none⟩ (.int .i64 0)).setCell ⟨w.heap.size + 1, 2, none⟩ (.int .i64 0)).setCell ⟨w.heap.size + 1, 3, none⟩ (.int .i64 0)).setCell ⟨w.heap.size + 1, 4, none⟩ (.int .i64 0)).setCell ⟨w.heap.size + 1, 5, none⟩ (.int .i64 0)).setCell ⟨w.heap.size + 1, 6, none⟩ (.bool false)).setCell ⟨w.heap.size + 1, 7, none⟩ (.bool false)).setCell ⟨w.heap.size + 1, 8, none⟩ (.bool false)).setCell ⟨w.heap.size + 1, 9, none⟩ (.bool false)) := ⟨_, rfl⟩
        rw [← hw6] at hf hw ⊢
        clear hw6
        refine bodyPost_ret (results_ct rfl _ _ (w.heap.size + 1) 44 #[.string ⟨#[]⟩, .int .i64 0, .int .i64 0, .int .i64 0, .int .i64 0, .int .i64 0, .bool false, .bool false, .bool false, .bool false] (0, 0) _ rfl hf Tryd.underlying44 rfl (by kernel_rfl)) rfl ?_
        exact ⟨rfl, hw⟩
      | false =>
        have c2 := (blk_cell HK1.out 2).trans rfl
        have c3 := (blk_cell HK1.out 3).trans rfl
        have c4 := (blk_cell HK1.out 4).trans rfl
        have c5 := (blk_cell HK1.out 5).trans rfl
        have c6 := (blk_cell HK1.out 6).trans rfl
        have c7 := (blk_cell HK1.out 7).trans rfl
        have c8 := (blk_cell HK1.out 8).trans rfl
        have c9 := (blk_cell HK1.out 9).trans rfl
        go_upto_block 7 with (fail)
        have hW2 := below_alloc (pw_below_drewN HW1.out (n + m)) (Obj.cells #[.pointer (some ⟨w.heap.size, 2, none⟩), .bool a0_6, .int .i64 a1, .pointer (some ⟨w.heap.size, 4, none⟩), .bool a0_8, .int .i64 a1, .pointer (some ⟨w.heap.size, 3, none⟩), .bool a0_7, .int .i64 a2, .pointer (some ⟨w.heap.size, 5, none⟩), .bool a0_9, .int .i64 a2] 99)
        have hS2 := blk_new (w1.drewN (n + m)) (Obj.cells #[.pointer (some ⟨w.heap.size, 2, none⟩), .bool a0_6, .int .i64 a1, .pointer (some ⟨w.heap.size, 4, none⟩), .bool a0_8, .int .i64 a1, .pointer (some ⟨w.heap.size, 3, none⟩), .bool a0_7, .int .i64 a2, .pointer (some ⟨w.heap.size, 5, none⟩), .bool a0_9, .int .i64 a2] 99)
        have hK2 := blk_alloc (blk_drewN HK1.out (n + m)) (Obj.cells #[.pointer (some ⟨w.heap.size, 2, none⟩), .bool a0_6, .int .i64 a1, .pointer (some ⟨w.heap.size, 4, none⟩), .bool a0_8, .int .i64 a1, .pointer (some ⟨w.heap.size, 3, none⟩), .bool a0_7, .int .i64 a2, .pointer (some ⟨w.heap.size, 5, none⟩), .bool a0_9, .int .i64 a2] 99)
        have hZ2 := blk_alloc (blk_drewN HZ1.out (n + m)) (Obj.cells #[.pointer (some ⟨w.heap.size, 2, none⟩), .bool a0_6, .int .i64 a1, .pointer (some ⟨w.heap.size, 4, none⟩), .bool a0_8, .int .i64 a1, .pointer (some ⟨w.heap.size, 3, none⟩), .bool a0_7, .int .i64 a2, .pointer (some ⟨w.heap.size, 5, none⟩), .bool a0_9, .int .i64 a2] 99)
        have hlt : w.heap.size + 1 < w1.heap.size := blk_lt HZ1.out
        have HW2 := Aside0.mk hW2
        have HS2 := Aside0.mk hS2
        have HK2 := Aside0.mk hK2
        have HZ2 := Aside0.mk hZ2
        clear hW2 hS2 hK2 hZ2 HW1 HK1 HZ1
        clear kz0 kz1 kz2 kz3 kz4 kz5 kz6 kz7 kz8 kz9 fz0 fz1 fz2 fz3 fz4 fz5 fz6 fz7 fz8 fz9 c2 c3 c4 c5 c6 c7 c8 c9
        go_loopw [46] (fun v46 wr => ∃ (n : Nat), v46 = .int .i64 (n : Int) ∧ n ≤ 4 ∧ Aside0 (wr.heap[w.heap.size]? = some (.cells #[.string a0_0, .int .i64 a0_1, .int .i64 (if 1 ≤ n then gone a0_6 a0_2 a1 else a0_2), .int .i64 (if 3 ≤ n then gone a0_7 a0_3 a2 else a0_3), .int .i64 (if 2 ≤ n then gone a0_8 a0_4 a1 else a0_4), .int .i64 (if 4 ≤ n then gone a0_9 a0_5 a2 else a0_5), .bool a0_6, .bool a0_7, .bool a0_8, .bool a0_9] 44 (0, 0))) ∧ Aside0 (wr.heap[w.heap.size + 1]? = some (.cells #[.string ⟨#[]⟩, .int .i64 0, .int .i64 0, .int .i64 0, .int .i64 0, .int .i64 0, .bool false, .bool false, .bool false, .bool false] 44 (0, 0))) ∧ Aside0 (wr.heap[w1.heap.size]? = some (.cells #[.pointer (some ⟨w.heap.size, 2, none⟩), .bool a0_6, .int .i64 a1, .pointer (some ⟨w.heap.size, 4, none⟩), .bool a0_8, .int .i64 a1, .pointer (some ⟨w.heap.size, 3, none⟩), .bool a0_7, .int .i64 a2, .pointer (some ⟨w.heap.size, 5, none⟩), .bool a0_9, .int .i64 a2] 99 (0, 0))) ∧ Aside0 (Below w.heap.size w wr)) (fun v46 _ => cntUp v46)
        case atStart => exact ⟨0, rfl, by omega, HK2, HZ2, HS2, HW2⟩
        case round =>
          clear HK2 HZ2 HS2 HW2
          obtain ⟨n, rfl, hn, HK, HZ, HS, HW⟩ := hrel
          obtain rfl | rfl | rfl | rfl | rfl : n = 0 ∨ n = 1 ∨ n = 2 ∨ n = 3 ∨ n = 4 := by omega
          · have hK : _ = some (Obj.cells #[.string a0_0, .int .i64 a0_1, .int .i64 (a0_2), .int .i64 (a0_3), .int .i64 (a0_4), .int .i64 (a0_5), .bool a0_6, .bool a0_7, .bool a0_8, .bool a0_9] 44 (0, 0)) := HK.out
            have HK2 := Aside0.mk hK
            clear hK HK
            have hS := HS.out
            have s0 := (blk_cell hS 0).trans rfl
            have s1 := (blk_cell hS 1).trans rfl
            have s2 := (blk_cell hS 2).trans rfl
            have q := (blk_cell HK2.out 2).trans rfl
            have qf := blk_frozen HK2.out 2
            have hlt2 := blk_lt hS
            clear hS
            by_cases ha : a0_6 = true
            · have e1 : (!a0_6) = false := by rw [ha]; rfl
              have hg : gone a0_6 a0_2 a1 = a0_2 := by rw [ha]; rfl
              go_wp2
              go_roundw
              case rel =>
                refine ⟨1, rfl, by omega, ⟨?_⟩, ⟨blk_alloc HZ.out _⟩, ⟨blk_alloc HS.out _⟩, ⟨below_alloc HW.out _⟩⟩
                show _ = some (Obj.cells #[.string a0_0, .int .i64 a0_1, .int .i64 (gone a0_6 a0_2 a1), .int .i64 (a0_3), .int .i64 (a0_4), .int .i64 (a0_5), .bool a0_6, .bool a0_7, .bool a0_8, .bool a0_9] 44 (0, 0))
                rw [hg]
                exact blk_alloc HK2.out _
              case measure => simp [cntUp]
            · have hf := Bool.eq_false_iff.2 ha
              have e1 : (!a0_6) = true := by rw [hf]; rfl
              have hg : gone a0_6 a0_2 a1 = wrap64 (a0_2 + a1) := by rw [hf]; rfl
              go_wp2
              have q2 := (blk_cell (blk_alloc HK2.out (Obj.cells #[.pointer (some ⟨w.heap.size, 2, none⟩), .bool false, .int .i64 a1] 99)) 2).trans rfl
              have qf2 := blk_frozen (blk_alloc HK2.out (Obj.cells #[.pointer (some ⟨w.heap.size, 2, none⟩), .bool false, .int .i64 a1] 99)) 2
              go_region
              go_wp2
              go_roundw
              case rel =>
                refine ⟨1, rfl, by omega, ⟨?_⟩, ⟨?_⟩, ⟨?_⟩, ⟨?_⟩⟩
                · show _ = some (Obj.cells #[.string a0_0, .int .i64 a0_1, .int .i64 (gone a0_6 a0_2 a1), .int .i64 (a0_3), .int .i64 (a0_4), .int .i64 (a0_5), .bool a0_6, .bool a0_7, .bool a0_8, .bool a0_9] 44 (0, 0))
                  rw [hg]
                  exact blk_put (blk_drewN (blk_alloc HK2.out _) _) 2 _ rfl
                · exact blk_far (blk_drewN (blk_alloc HZ.out _) _) (by simp) _
                · exact blk_far (blk_drewN (blk_alloc HS.out _) _) (by show w1.heap.size ≠ w.heap.size; omega) _
                · exact (pw_below_drewN (below_alloc HW.out _) _).setCell (Nat.le_refl _) _
              case measure => simp [cntUp]
          · have hK : _ = some (Obj.cells #[.string a0_0, .int .i64 a0_1, .int .i64 (gone a0_6 a0_2 a1), .int .i64 (a0_3), .int .i64 (a0_4), .int .i64 (a0_5), .bool a0_6, .bool a0_7, .bool a0_8, .bool a0_9] 44 (0, 0)) := HK.out
            have HK2 := Aside0.mk hK
            clear hK HK
            have hS := HS.out
            have s0 := (blk_cell hS 3).trans rfl
            have s1 := (blk_cell hS 4).trans rfl
            have s2 := (blk_cell hS 5).trans rfl
            have q := (blk_cell HK2.out 4).trans rfl
            have qf := blk_frozen HK2.out 4
            have hlt2 := blk_lt hS
            clear hS
            by_cases ha : a0_8 = true
            · have e1 : (!a0_8) = false := by rw [ha]; rfl
              have hg : gone a0_8 a0_4 a1 = a0_4 := by rw [ha]; rfl
              go_wp2
              go_roundw
              case rel =>
                refine ⟨2, rfl, by omega, ⟨?_⟩, ⟨blk_alloc HZ.out _⟩, ⟨blk_alloc HS.out _⟩, ⟨below_alloc HW.out _⟩⟩
                show _ = some (Obj.cells #[.string a0_0, .int .i64 a0_1, .int .i64 (gone a0_6 a0_2 a1), .int .i64 (a0_3), .int .i64 (gone a0_8 a0_4 a1), .int .i64 (a0_5), .bool a0_6, .bool a0_7, .bool a0_8, .bool a0_9] 44 (0, 0))
                rw [hg]
                exact blk_alloc HK2.out _
              case measure => simp [cntUp]
            · have hf := Bool.eq_false_iff.2 ha
              have e1 : (!a0_8) = true := by rw [hf]; rfl
              have hg : gone a0_8 a0_4 a1 = wrap64 (a0_4 + a1) := by rw [hf]; rfl
              go_wp2
              have q2 := (blk_cell (blk_alloc HK2.out (Obj.cells #[.pointer (some ⟨w.heap.size, 4, none⟩), .bool false, .int .i64 a1] 99)) 4).trans rfl
              have qf2 := blk_frozen (blk_alloc HK2.out (Obj.cells #[.pointer (some ⟨w.heap.size, 4, none⟩), .bool false, .int .i64 a1] 99)) 4
              go_region
              go_wp2
              go_roundw
              case rel =>
                refine ⟨2, rfl, by omega, ⟨?_⟩, ⟨?_⟩, ⟨?_⟩, ⟨?_⟩⟩
                · show _ = some (Obj.cells #[.string a0_0, .int .i64 a0_1, .int .i64 (gone a0_6 a0_2 a1), .int .i64 (a0_3), .int .i64 (gone a0_8 a0_4 a1), .int .i64 (a0_5), .bool a0_6, .bool a0_7, .bool a0_8, .bool a0_9] 44 (0, 0))
                  rw [hg]
                  exact blk_put (blk_drewN (blk_alloc HK2.out _) _) 4 _ rfl
                · exact blk_far (blk_drewN (blk_alloc HZ.out _) _) (by simp) _
                · exact blk_far (blk_drewN (blk_alloc HS.out _) _) (by show w1.heap.size ≠ w.heap.size; omega) _
                · exact (pw_below_drewN (below_alloc HW.out _) _).setCell (Nat.le_refl _) _
              case measure => simp [cntUp]
          · have hK : _ = some (Obj.cells #[.string a0_0, .int .i64 a0_1, .int .i64 (gone a0_6 a0_2 a1), .int .i64 (a0_3), .int .i64 (gone a0_8 a0_4 a1), .int .i64 (a0_5), .bool a0_6, .bool a0_7, .bool a0_8, .bool a0_9] 44 (0, 0)) := HK.out
            have HK2 := Aside0.mk hK
            clear hK HK
            have hS := HS.out
            have s0 := (blk_cell hS 6).trans rfl
            have s1 := (blk_cell hS 7).trans rfl
            have s2 := (blk_cell hS 8).trans rfl
            have q := (blk_cell HK2.out 3).trans rfl
            have qf := blk_frozen HK2.out 3
            have hlt2 := blk_lt hS
            clear hS
            by_cases ha : a0_7 = true
            · have e1 : (!a0_7) = false := by rw [ha]; rfl
              have hg : gone a0_7 a0_3 a2 = a0_3 := by rw [ha]; rfl
              go_wp2
              go_roundw
              case rel =>
                refine ⟨3, rfl, by omega, ⟨?_⟩, ⟨blk_alloc HZ.out _⟩, ⟨blk_alloc HS.out _⟩, ⟨below_alloc HW.out _⟩⟩
                show _ = some (Obj.cells #[.string a0_0, .int .i64 a0_1, .int .i64 (gone a0_6 a0_2 a1), .int .i64 (gone a0_7 a0_3 a2), .int .i64 (gone a0_8 a0_4 a1), .int .i64 (a0_5), .bool a0_6, .bool a0_7, .bool a0_8, .bool a0_9] 44 (0, 0))
                rw [hg]
                exact blk_alloc HK2.out _
              case measure => simp [cntUp]
            · have hf := Bool.eq_false_iff.2 ha
              have e1 : (!a0_7) = true := by rw [hf]; rfl
              have hg : gone a0_7 a0_3 a2 = wrap64 (a0_3 + a2) := by rw [hf]; rfl
              go_wp2
              have q2 := (blk_cell (blk_alloc HK2.out (Obj.cells #[.pointer (some ⟨w.heap.size, 3, none⟩), .bool false, .int .i64 a2] 99)) 3).trans rfl
              have qf2 := blk_frozen (blk_alloc HK2.out (Obj.cells #[.pointer (some ⟨w.heap.size, 3, none⟩), .bool false, .int .i64 a2] 99)) 3
              go_region
              go_wp2
              go_roundw
              case rel =>
                refine ⟨3, rfl, by omega, ⟨?_⟩, ⟨?_⟩, ⟨?_⟩, ⟨?_⟩⟩
                · show _ = some (Obj.cells #[.string a0_0, .int .i64 a0_1, .int .i64 (gone a0_6 a0_2 a1), .int .i64 (gone a0_7 a0_3 a2), .int .i64 (gone a0_8 a0_4 a1), .int .i64 (a0_5), .bool a0_6, .bool a0_7, .bool a0_8, .bool a0_9] 44 (0, 0))
                  rw [hg]
                  exact blk_put (blk_drewN (blk_alloc HK2.out _) _) 3 _ rfl
                · exact blk_far (blk_drewN (blk_alloc HZ.out _) _) (by simp) _
                · exact blk_far (blk_drewN (blk_alloc HS.out _) _) (by show w1.heap.size ≠ w.heap.size; omega) _
                · exact (pw_below_drewN (below_alloc HW.out _) _).setCell (Nat.le_refl _) _
              case measure => simp [cntUp]
          · have hK : _ = some (Obj.cells #[.string a0_0, .int .i64 a0_1, .int .i64 (gone a0_6 a0_2 a1), .int .i64 (gone a0_7 a0_3 a2), .int .i64 (gone a0_8 a0_4 a1), .int .i64 (a0_5), .bool a0_6, .bool a0_7, .bool a0_8, .bool a0_9] 44 (0, 0)) := HK.out
            have HK2 := Aside0.mk hK
            clear hK HK
            have hS := HS.out
            have s0 := (blk_cell hS 9).trans rfl
            have s1 := (blk_cell hS 10).trans rfl
            have s2 := (blk_cell hS 11).trans rfl
            have q := (blk_cell HK2.out 5).trans rfl
            have qf := blk_frozen HK2.out 5
            have hlt2 := blk_lt hS
            clear hS
            by_cases ha : a0_9 = true
            · have e1 : (!a0_9) = false := by rw [ha]; rfl
              have hg : gone a0_9 a0_5 a2 = a0_5 := by rw [ha]; rfl
              go_wp2
              go_roundw
              case rel =>
                refine ⟨4, rfl, by omega, ⟨?_⟩, ⟨blk_alloc HZ.out _⟩, ⟨blk_alloc HS.out _⟩, ⟨below_alloc HW.out _⟩⟩
                show _ = some (Obj.cells #[.string a0_0, .int .i64 a0_1, .int .i64 (gone a0_6 a0_2 a1), .int .i64 (gone a0_7 a0_3 a2), .int .i64 (gone a0_8 a0_4 a1), .int .i64 (gone a0_9 a0_5 a2), .bool a0_6, .bool a0_7, .bool a0_8, .bool a0_9] 44 (0, 0))
                rw [hg]
                exact blk_alloc HK2.out _
              case measure => simp [cntUp]
            · have hf := Bool.eq_false_iff.2 ha
              have e1 : (!a0_9) = true := by rw [hf]; rfl
              have hg : gone a0_9 a0_5 a2 = wrap64 (a0_5 + a2) := by rw [hf]; rfl
              go_wp2
              have q2 := (blk_cell (blk_alloc HK2.out (Obj.cells #[.pointer (some ⟨w.heap.size, 5, none⟩), .bool false, .int .i64 a2] 99)) 5).trans rfl
              have qf2 := blk_frozen (blk_alloc HK2.out (Obj.cells #[.pointer (some ⟨w.heap.size, 5, none⟩), .bool false, .int .i64 a2] 99)) 5
              go_region
              go_wp2
              go_roundw
              case rel =>
                refine ⟨4, rfl, by omega, ⟨?_⟩, ⟨?_⟩, ⟨?_⟩, ⟨?_⟩⟩
                · show _ = some (Obj.cells #[.string a0_0, .int .i64 a0_1, .int .i64 (gone a0_6 a0_2 a1), .int .i64 (gone a0_7 a0_3 a2), .int .i64 (gone a0_8 a0_4 a1), .int .i64 (gone a0_9 a0_5 a2), .bool a0_6, .bool a0_7, .bool a0_8, .bool a0_9] 44 (0, 0))
                  rw [hg]
                  exact blk_put (blk_drewN (blk_alloc HK2.out _) _) 5 _ rfl
                · exact blk_far (blk_drewN (blk_alloc HZ.out _) _) (by simp) _
                · exact blk_far (blk_drewN (blk_alloc HS.out _) _) (by show w1.heap.size ≠ w.heap.size; omega) _
                · exact (pw_below_drewN (below_alloc HW.out _) _).setCell (Nat.le_refl _) _
              case measure => simp [cntUp]
          · have hK : _ = some (Obj.cells #[.string a0_0, .int .i64 a0_1, .int .i64 (gone a0_6 a0_2 a1), .int .i64 (gone a0_7 a0_3 a2), .int .i64 (gone a0_8 a0_4 a1), .int .i64 (gone a0_9 a0_5 a2), .bool a0_6, .bool a0_7, .bool a0_8, .bool a0_9] 44 (0, 0)) := HK.out
            have c0 := (blk_cell hK 0).trans rfl
            have c1 := (blk_cell hK 1).trans rfl
            have c2 := (blk_cell hK 2).trans rfl
            have c3 := (blk_cell hK 3).trans rfl
            have c4 := (blk_cell hK 4).trans rfl
            have c5 := (blk_cell hK 5).trans rfl
            have c6 := (blk_cell hK 6).trans rfl
            have c7 := (blk_cell hK 7).trans rfl
            have c8 := (blk_cell hK 8).trans rfl
            have c9 := (blk_cell hK 9).trans rfl
            clear hK HK HS
            have hr := HR2.out
            rw [if_neg (by decide)] at hr
            obtain ⟨⟨m1, m2, m3, m4, m5, m6, m7, m8, m9, m10⟩, hm, hr⟩ := Option.bind_eq_some_iff.1 hr
            obtain ⟨⟨o1, o2, o3, o4, o5, o6, o7, o8, o9, o10⟩, ho, hr⟩ := Option.bind_eq_some_iff.1 hr
            obtain ⟨⟨z1, z2, z3, z4, z5, z6, z7, z8, z9, z10⟩, hz, hr⟩ := Option.bind_eq_some_iff.1 hr
            simp only [Option.some.injEq, Prod.mk.injEq] at hr
            obtain ⟨rfl, rfl, rfl, rfl, rfl, rfl, rfl, rfl, rfl, rfl, rfl⟩ := hr
            have HM := Aside0.mk hm
            have HO := Aside0.mk ho
            have HF := Aside0.mk hz
            clear hm ho hz HR2
            go_wp2_with fail
            refine (cellref_meaning.calls _ _ _ _ _ _ _ _ _ _ _ _ _ _ _ _ _ _ _ _ _ (gl_below hGl HW.out) HM.out).mono ?_
            clear c0
            clear c1
            clear c2
            clear c3
            clear c4
            clear c5
            clear c6
            clear c7
            clear c8
            clear c9
            rintro e w2 ⟨rfl, hb2⟩
            have HW2 := Aside0.mk (below_step HW.out hb2)
            have HZ2 := Aside0.mk (blk_below HZ.out hb2)
            clear hb2 HW HZ
            go_wp2_with fail
            refine (cellref_ordered.calls _ _ _ _ _ _ _ _ _ _ _ _ _ _ _ _ _ _ _ _ _ (gl_below hGl HW2.out) HO.out).mono ?_
            rintro e w3 ⟨rfl, hb3⟩
            have HW3 := Aside0.mk (below_step HW2.out hb3)
            have HZ3 := Aside0.mk (blk_below HZ2.out hb3)
            clear hb3 HW2 HZ2
            go_wp2_with fail
            refine (cellref_fitting.calls _ _ _ _ _ _ _ _ _ _ _ _ _ _ _ _ _ _ _ _ _ (gl_below hGl HW3.out) HF.out).mono ?_
            rintro e w4 ⟨rfl, hb4⟩
            have HW4 := Aside0.mk (below_step HW3.out hb4)
            have HZ4 := Aside0.mk (blk_below HZ3.out hb4)
            clear hb4 HW3 HZ3
            have hZ := HZ4.out
            have kz0 := (blk_cell hZ 0).trans rfl
            have fz0 := blk_frozen hZ 0
            have kz1 := (blk_cell hZ 1).trans rfl
            have fz1 := blk_frozen hZ 1
            have kz2 := (blk_cell hZ 2).trans rfl
            have fz2 := blk_frozen hZ 2
            have kz3 := (blk_cell hZ 3).trans rfl
            have fz3 := blk_frozen hZ 3
            have kz4 := (blk_cell hZ 4).trans rfl
            have fz4 := blk_frozen hZ 4
            have kz5 := (blk_cell hZ 5).trans rfl
            have fz5 := blk_frozen hZ 5
            have kz6 := (blk_cell hZ 6).trans rfl
            have fz6 := blk_frozen hZ 6
            have kz7 := (blk_cell hZ 7).trans rfl
            have fz7 := blk_frozen hZ 7
            have kz8 := (blk_cell hZ 8).trans rfl
            have fz8 := blk_frozen hZ 8
            have kz9 := (blk_cell hZ 9).trans rfl
            have fz9 := blk_frozen hZ 9
            clear hZ
            go_wp2
            clear kz0 fz0 kz1 fz1 kz2 fz2 kz3 fz3 kz4 fz4 kz5 fz5 kz6 fz6 kz7 fz7 kz8 fz8 kz9 fz9
            obtain ⟨hf, hw⟩ := store10 (b := w.heap.size + 1) HZ4.out HW4.out (Nat.le_succ _) (.string z1) (.int .i64 z2) (.int .i64 z3) (.int .i64 z4) (.int .i64 z5) (.int .i64 z6) (.bool z7) (.bool z8) (.bool z9) (.bool z10)
            obtain ⟨w6, hw6⟩ : ∃ w6, w6 = ((((((((((w4.setCell ⟨w.heap.size + 1, 0, none⟩ (.string z1)).setCell ⟨w.heap.size + 1, 1, none⟩ (.int .i64 z2)).setCell ⟨w.heap.size + 1, 2, none⟩ (.int .i64 z3)).setCell ⟨w.heap.size + 1, 3, none⟩ (.int .i64 z4)).setCell ⟨w.heap.size + 1, 4, none⟩ (.int .i64 z5)).setCell ⟨w.heap.size + 1, 5, none⟩ (.int .i64 z6)).setCell ⟨w.heap.size + 1, 6, none⟩ (.bool z7)).setCell ⟨w.heap.size + 1, 7, none⟩ (.bool z8)).setCell ⟨w.heap.size + 1, 8, none⟩ (.bool z9)).setCell ⟨w.heap.size + 1, 9, none⟩ (.bool z10)) := ⟨_, rfl⟩
            rw [← hw6] at hf hw ⊢
            clear hw6
            refine bodyPost_ret (results_ct rfl _ _ (w.heap.size + 1) 44 #[.string z1, .int .i64 z2, .int .i64 z3, .int .i64 z4, .int .i64 z5, .int .i64 z6, .bool z7, .bool z8, .bool z9, .bool z10] (0, 0) _ rfl hf Tryd.underlying44 rfl (by kernel_rfl)) rfl ?_
            exact ⟨rfl, hw⟩
  · have hr := HR.out
    rw [if_neg he] at hr
    simp only [Option.some.injEq, Prod.mk.injEq] at hr
    obtain ⟨rfl, rfl, rfl, rfl, rfl, rfl, rfl, rfl, rfl, rfl, rfl⟩ := hr
    have e1 : (e0 != 0) = true := by simp [he]
    have e2 : (e0 == 0) = false := by simp [he]
    have e3 : decide (e0 = 0) = false := by simp [he]
    clear HR
    go_wp2
    clear kz0 fz0 kz1 fz1 kz2 fz2 kz3 fz3 kz4 fz4 kz5 fz5 kz6 fz6 kz7 fz7 kz8 fz8 kz9 fz9
    obtain ⟨hf, hw⟩ := store10 (b := w.heap.size + 1) HZ1.out HW1.out (Nat.le_succ _) (.string ⟨#[]⟩) (.int .i64 0) (.int .i64 0) (.int .i64 0) (.int .i64 0) (.int .i64 0) (.bool false) (.bool false) (.bool false) (.bool false)
    obtain ⟨w6, hw6⟩ : ∃ w6, w6 = ((((((((((w1.setCell ⟨w.heap.size + 1, 0, none⟩ (.string ⟨#[]⟩)).setCell ⟨w.heap.size + 1, 1, none⟩ (.int .i64 0)).setCell ⟨w.heap.size + 1, 2, none⟩ (.int .i64 0)).setCell ⟨w.heap.size + 1, 3, none⟩ (.int .i64 0)).setCell ⟨w.heap.size + 1, 4, none⟩ (.int .i64 0)).setCell ⟨w.heap.size + 1, 5, none⟩ (.int .i64 0)).setCell ⟨w.heap.size + 1, 6, none⟩ (.bool false)).setCell ⟨w.heap.size + 1, 7, none⟩ (.bool false)).setCell ⟨w.heap.size + 1, 8, none⟩ (.bool false)).setCell ⟨w.heap.size + 1, 9, none⟩ (.bool false)) := ⟨_, rfl⟩
    rw [← hw6] at hf hw ⊢
    clear hw6
    refine bodyPost_ret (results_ct rfl _ _ (w.heap.size + 1) 44 #[.string ⟨#[]⟩, .int .i64 0, .int .i64 0, .int .i64 0, .int .i64 0, .int .i64 0, .bool false, .bool false, .bool false, .bool false] (0, 0) _ rfl hf Tryd.underlying44 rfl (by kernel_rfl)) rfl ?_
    exact ⟨rfl, hw⟩
end Go.Proofs.YtefhcgnamfnkbaaDoor.Pr
