/- values, mod and DatesStep, walked by hand. -/
import Derived.Test.YtckfdhnimmaeiaaGreatDoorEg
namespace Go.Proofs.YtckfdhnimmaeiaaGreatDoor.Pr
open Go.RowKit Go.Proofs.YtckfdhnimmaeiaaGreatDoorW.PrintWords Go.Proofs.YtckfdhnimmaeiaaGreatDoorW.PrintLast Go.Proofs.YtckfdhnimmaeiaaGreatDoorW.PrintMore
open Go.Proofs.YtckfdhnimmaeiaaGreatDoor.Sd
set_option linter.unusedVariables false
set_option linter.unusedSimpArgs false
theorem enter_l (w : World) (hGl : Gl w) (hF : Fs w) :
    Calls Tryz.prog 15 #[.string ⟨#[49, 57, 48, 48, 45, 48, 49, 45, 48, 50]⟩] w fun x w' => x = .returned (.agg #[.int .i64 1, .string s2, .string s1, .string ⟨#[]⟩, .bool false, .int .i64 0, .int .i64 0, .int .i64 0, .slice none 0 0]) ∧ Below w.heap.size w w' := enter_c w hGl hF
set_option maxHeartbeats 2000000 in
set_option maxRecDepth 100000 in
theorem values_c (w : World) (hGl : Gl w) (hF : Fs w) : Calls Tryz.prog 6 #[] w fun x w' => x = .returned (.bool true) ∧ Below w.heap.size w w' := by
  have EC := Aside0.mk (fun w hGl hF => enter_l w hGl hF)
  have SC := Aside0.mk (fun w hGl => show_num s2 s1 s2 20 w hGl (by decide +kernel) (by decide +kernel) (by decide))
  have q1 : (s2.toList == [50]) = true := by decide +kernel
  obtain ⟨t, ht⟩ : ∃ t, t = s2 := ⟨_, rfl⟩
  obtain ⟨o, ho⟩ : ∃ o, o = s1 := ⟨_, rfl⟩
  rw [← ht] at EC SC q1
  rw [← ho] at EC SC
  have HG := Aside0.mk hGl
  have HF := Aside0.mk hF
  have B := Aside0.mk (Below.refl w.heap.size w)
  clear ht ho hGl hF
  go_enter Tryz.func6, Tryz.ntmps6
  go_wp2_with (first
    | (go_at_call 15; (with_reducible refine (EC.out _ (gl_below HG.out (bl B.out)) (HF.out.below (bl B.out))).mono ?_); rintro _ w1 ⟨rfl, hb1⟩; have B_ := Aside0.mk (below_step (bl B.out) hb1); clear B hb1; have B := B_; clear B_)
    | (go_at_call 13; (with_reducible refine (SC.out _ (gl_below HG.out (bl B.out))).mono ?_); rintro _ w1 ⟨rfl, hb1⟩; have B_ := Aside0.mk (below_step (bl B.out) hb1); clear B hb1; have B := B_; clear B_))
  go_ret
  exact ⟨rfl, bl B.out⟩
end Go.Proofs.YtckfdhnimmaeiaaGreatDoor.Pr
