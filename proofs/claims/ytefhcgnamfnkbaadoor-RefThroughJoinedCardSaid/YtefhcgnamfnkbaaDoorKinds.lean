/- chancerykeep2.kinds with its closure and slices.ContainsFunc, IndexFunc, walked by hand. -/
import Derived.Test.YtefhcgnamfnkbaaDoorUndo
namespace Go.Proofs.YtefhcgnamfnkbaaDoor.Pr
open Go.RowKit Go.Proofs.YtefhcgnamfnkbaaDoorW.PrintWords Go.Proofs.YtefhcgnamfnkbaaDoorW.PrintLast Go.Proofs.YtefhcgnamfnkbaaDoorW.PrintMore

theorem is_kind_calls (x y k : Int) (kb : Nat) (w : World) (h : w.heap[kb]? = some (.cells #[.int .i64 k] 3 (0, 0))) :
    Calls Tryd.prog 70 #[.agg #[.int .i64 x, .int .i64 y], .pointer (some ⟨kb, 0, none⟩)] w fun r w' => r = .returned (.bool (x == k)) ∧ Below w.heap.size w w' := by
  have c0 : w.cell? ⟨kb, 0, none⟩ = some (.int .i64 k) := (blk_cell h 0).trans rfl
  have z0 := blk_lt h
  have n0 : ¬ w.heap.size = kb := by omega
  clear h
  go_enter Tryd.func70, Tryd.ntmps70
  go_wp2
  go_ret
  exact ⟨rfl, climb⟩
/-- Whether a step has a kind. -/
def anyK (la : List S127) (k : Int) : Bool := la.any fun s => s.f0 == k
set_option maxHeartbeats 4000000 in
set_option maxRecDepth 100000 in
theorem index_calls (A1 : Option Addr) (c1 : Nat) (la : List S127) (k : Int) (kb : Nat) (w : World) (sa : St w A1 c1 la) (h : w.heap[kb]? = some (.cells #[.int .i64 k] 3 (0, 0))) :
    Calls Tryd.prog 109 #[.slice A1 la.length c1, .func (.func 70) #[] #[.pointer (some ⟨kb, 0, none⟩)]] w fun x w' => ∃ i : Int, x = .returned (.int .i64 i) ∧ decide (0 ≤ i) = anyK la k ∧ Below w.heap.size w w' := by
  have SA := Aside0.mk sa
  have HK := Aside0.mk h
  have hbig : la.length ≤ 9223372036854775807 := sa.1.2.1
  clear sa h
  go_enter Tryd.func109, Tryd.ntmps109
  go_wp2_with (fail)
  go_loopg [8] la.length (fun kq v8 w' => ∃ (i : Nat), v8 = .int .i64 (i : Int) ∧ i + kq = la.length ∧ Aside0 (anyK la k = anyK (la.drop i) k) ∧ Aside0 (Below w.heap.size w w'))
  case atStart => exact ⟨0, rfl, by simp, ⟨rfl⟩, ⟨Below.refl _ _⟩⟩
  case round =>
    obtain ⟨i, rfl, hk, HA, HB⟩ := hrel
    cases hd : la.drop i with
    | nil =>
      have hi : la.length ≤ i := List.drop_eq_nil_iff.1 hd
      obtain rfl : i = la.length := by omega
      have HX : Aside0 (anyK la k = false) := ⟨by rw [HA.out, hd]; rfl⟩
      clear hd hi HA
      go_wp2_with (fail)
      go_ret
      exact ⟨-1, rfl, by rw [HX.out]; rfl, bl HB.out⟩
    | cons s r' =>
      obtain ⟨ad, rfl, m0, m1, hlt, hd1⟩ := at_st (SA.out.up HB.out) i hd
      have i0 : (0 : Int) ≤ (i : Int) := Int.natCast_nonneg _
      have hw : IntKind.i64.wrap ((i : Int) + 1) = ((i + 1 : Nat) : Int) := by rw [show ((i : Int) + 1) = ((i + 1 : Nat) : Int) from by omega]; exact IntWalk.i64_in _ (by omega)
      have HX : Aside0 (anyK la k = ((s.f0 == k) || anyK r' k)) := ⟨by rw [HA.out, hd]; rfl⟩
      have HD1 := Aside0.mk hd1
      have hgk : ∃ gk1, gk = gk1 + 1 := ⟨gk - 1, by omega⟩
      obtain ⟨gk1, rfl⟩ := hgk
      clear hd hd1 HA
      cases hb : (s.f0 == k) with
      | true =>
        go_wp2_with (first | (go_at_call 70; (with_reducible refine (is_kind_calls s.f0 s.f1 k kb _ (blk_below HK.out (bl HB.out))).mono ?_); rintro _ w1 ⟨rfl, hb1⟩; have HB_ := Aside0.mk (below_step (bl HB.out) hb1); clear HB hb1; have HB := HB_; clear HB_))
        go_ret
        exact ⟨(i : Int), rfl, by rw [HX.out, hb]; simp, bl HB.out⟩
      | false =>
        go_wp2_with (first | (go_at_call 70; (with_reducible refine (is_kind_calls s.f0 s.f1 k kb _ (blk_below HK.out (bl HB.out))).mono ?_); rintro _ w1 ⟨rfl, hb1⟩; have HB_ := Aside0.mk (below_step (bl HB.out) hb1); clear HB hb1; have HB := HB_; clear HB_))
        go_roundg gk1
        case measure => omega
        case rel => exact ⟨i + 1, rfl, by omega, ⟨by rw [HX.out, HD1.out, hb]; rfl⟩, ⟨bl HB.out⟩⟩
set_option maxHeartbeats 4000000 in
set_option maxRecDepth 100000 in
theorem contains_calls (A1 : Option Addr) (c1 : Nat) (la : List S127) (k : Int) (kb : Nat) (w : World) (sa : St w A1 c1 la) (h : w.heap[kb]? = some (.cells #[.int .i64 k] 3 (0, 0))) :
    Calls Tryd.prog 69 #[.slice A1 la.length c1, .func (.func 70) #[] #[.pointer (some ⟨kb, 0, none⟩)]] w fun x w' => x = .returned (.bool (anyK la k)) ∧ Below w.heap.size w w' := by
  have SA := Aside0.mk sa
  have HK := Aside0.mk h
  clear sa h
  go_enter Tryd.func69, Tryd.ntmps69
  go_wp2_with (first | (go_at_call 109; (with_reducible refine (index_calls A1 c1 la k kb _ (SA.out.up climb) (blk_below HK.out climb)).mono ?_); rintro _ w1 ⟨i, rfl, hi, hb1⟩; have HB := Aside0.mk (below_step (show Below w.heap.size w _ from climb) hb1); have HI := Aside0.mk hi; clear hb1 hi))
  go_ret
  exact ⟨by rw [← HI.out]; rfl, bl HB.out⟩
set_option maxHeartbeats 4000000 in
set_option maxRecDepth 100000 in
theorem kinds_calls (A1 : Option Addr) (c1 : Nat) (la : List S127) (k : Int) (w : World) (sa : St w A1 c1 la) :
    Calls Tryd.prog 27 #[.slice A1 la.length c1, .int .i64 k] w fun x w' => x = .returned (.bool (anyK la k)) ∧ Below w.heap.size w w' := by
  have SA := Aside0.mk sa
  clear sa
  have hmf : ∀ (fn : Fn) (first cap : Array Value) (w : World), (Instr.makeFunc fn first cap).run Tryd.prog w = .ok (.func fn first cap) w := fun _ _ _ _ => rfl
  go_enter Tryd.func27, Tryd.ntmps27
  go_wp2_with (first | (go_at_call 69; (with_reducible refine (contains_calls A1 c1 la k w.heap.size _ (SA.out.up climb) (blk_below (blk_new w _) climb)).mono ?_); rintro _ w1 ⟨rfl, hb1⟩; have HB := Aside0.mk (below_step (show Below w.heap.size w _ from climb) hb1); clear hb1))
  go_ret
  exact ⟨rfl, bl HB.out⟩
end Go.Proofs.YtefhcgnamfnkbaaDoor.Pr
