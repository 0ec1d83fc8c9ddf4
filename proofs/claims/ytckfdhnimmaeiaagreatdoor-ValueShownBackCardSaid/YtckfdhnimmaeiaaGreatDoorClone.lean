/- slices.Clone at nat: a row of its own with the same digits. -/
import Derived.Test.YtckfdhnimmaeiaaGreatDoorPrx0
import Derived.Lib.SliceRun
namespace Go.Proofs.YtckfdhnimmaeiaaGreatDoor.Pr
open Go.RowKit Go.Proofs.YtckfdhnimmaeiaaGreatDoorW.PrintWords Go.Proofs.YtckfdhnimmaeiaaGreatDoorW.PrintLast Go.Proofs.YtckfdhnimmaeiaaGreatDoorW.PrintMore
def exact_nat_uint32.f (a0 : List Int) : Option (List Int) := if a0.length < 35184372088832 then some a0 else none
set_option maxHeartbeats 2000000 in
set_option maxRecDepth 100000 in
theorem exact_nat_uint32.calls (A0 : Option Addr) (c0 : Nat) (l0 : List Int) (r : List Int) (w : World) (hr0 : Kd.C (Kd.int .u32) w A0 l0.length l0) (_hc0 : l0.length ≤ c0) (_hGl : Gl w) (h : exact_nat_uint32.f l0 = some r) :
    Calls Tryz.prog 88 #[.slice A0 l0.length c0] w fun e w' => ∃ v0_ : Value, e = .returned (v0_) ∧ Kd.R (Kd.int .u32) 69 w' w.heap.size (fun _ => True) v0_ r ∧ Below w.heap.size w w' := by
  unfold exact_nat_uint32.f at h
  split at h
  case isFalse => cases h
  rename_i hlen
  obtain rfl := Option.some.inj h
  have q78 : ∀ (w : World) (a : Option Addr) (n c n' c' : Nat), (binOp .eql 62 (.slice a n c) (.slice none n' c')).run Tryz.prog w = .ok (.bool a.isNone) w := fun w a n c n' c' => Lib.run_eql_slice_nil w _ _ a n c n' c' Tryz.underlying62
  have HR0 := Aside0.mk hr0
  clear hr0
  cases A0 with
  | none =>
    have h0 : l0 = [] := by
      cases l0 with
      | nil => rfl
      | cons x r =>
        obtain ⟨ad, c, e, _⟩ := Kd.C_get HR0.out 0 0 (by omega) (by simp)
        cases e
    subst h0
    go_enter Tryz.func88, Tryz.ntmps88
    go_wp2
    go_ret
    refine ⟨_, rfl, ?_, Below.refl _ _⟩
    exact Kd.R_nil _ _ _ _ _
  | some ad =>
    go_enter Tryz.func88, Tryz.ntmps88
    go_wp2_with (first | ((with_reducible refine gate_dst (N := 5) rfl ?_); refine Kd.R_lit (Kd.int .u32) w.heap.size 69 ?hg (N := 5) ?hd (xs := ([] : List Int)) (inner := []) (ok := fun _ => True) (okp := fun _ => True) ?hr ?hp (fun _ hk => hk) trivial (Below.refl _ _) (Nat.le_refl _) (by simp) ?_; (case hd => rfl); (case hg => rfl); (case hr => first | (go_simp; done) | (go_simp; rfl)); (case hp => exact Reps.none _ _); intro v1 w1 ho1 hb1 hg1 hnew1; obtain ⟨A1, c1, rfl⟩ := Kd.R_slice ho1; have HO1 := Aside0.mk ho1; have HB1 := Aside0.mk hb1; clear ho1 hb1 hg1) | ((with_reducible refine gate_builtin (b := .append) (xs := #[.tmp 5, .tmp 6]) rfl ?_); at_builtin; refine Kd.R_append_rows (Kd.int .u32) (w0 := w) w.heap.size rfl (.tmp 5) (.tmp 6) 62 69 (.int .u32 0) 4 rfl Tryz.underlying62 info90 rfl (by decide) (by omega) (.slice A1 ([] : List Int).length c1) [] l0 _ _ _ (fun _ => True) (fun _ => False) rfl rfl ?aO ?aR (fun _ _ h => h) (fun _ h => h.elim) ?aF ?aB ?aS ?aL ?_; (case aO => exact HO1.out); (case aR => exact Kd.C_below HR0.out HB1.out); (case aB => exact HB1.out); (case aF => exact fun _ _ => trivial); (case aS => exact HB1.out.size); (case aL => simp; omega); intro v2 w2 ho2 hb2 _ _; have HO2 := Aside0.mk ho2; have HB2 := Aside0.mk hb2; clear ho2 hb2))
    go_wp2
    go_ret
    exact ⟨_, rfl, HO2.out, HB2.out⟩
end Go.Proofs.YtckfdhnimmaeiaaGreatDoor.Pr
