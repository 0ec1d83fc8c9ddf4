/- cellref.Parse: more rounds tell the same. -/
import Derived.Test.YtefhcgnamfnkbaaDoorParseF
namespace Go.Proofs.YtefhcgnamfnkbaaDoor.Pr
open Go.RowKit Go.Proofs.YtefhcgnamfnkbaaDoorW.PrintWords Go.Proofs.YtefhcgnamfnkbaaDoorW.PrintLast
theorem refLast.mono (s : ByteArray) (d n c n2 c2 : Int) (a b a2 b2 : Bool) (k : Nat) : LeO (refLast k s d n c n2 c2 a b a2 b2) (refLast (k + 1) s d n c n2 c2 a b a2 b2) := by
  unfold refLast
  exact LeO.bind (cellref_Check.mono _ _ _ _ _ _ _ _ _ _ _) (fun _ => LeO.refl _)
theorem refEnd.mono (s : ByteArray) (d n c n2 c2 : Int) (a b a2 b2 : Bool) (k : Nat) : LeO (refEnd k s d n c n2 c2 a b a2 b2) (refEnd (k + 1) s d n c n2 c2 a b a2 b2) := by
  unfold refEnd
  exact LeO.bind (LeO.refl _) (fun _ => refLast.mono _ _ _ _ _ _ _ _ _ _ _)
theorem parseTwo.mono (t : ByteArray) (ok : Bool) (p q : CornT) (k : Nat) : LeO (parseTwo k t ok p q) (parseTwo (k + 1) t ok p q) := by
  unfold parseTwo
  exact LeO.ite (LeO.bind (cellref_corner_values.mono _ _ _ _ _) (fun _ => LeO.ite (LeO.bind (cellref_corner_values.mono _ _ _ _ _) (fun _ => LeO.ite (refEnd.mono _ _ _ _ _ _ _ _ _ _ _) (LeO.refl _))) (LeO.refl _))) (LeO.refl _)
theorem parseOne.mono (t : ByteArray) (ok : Bool) (p : CornT) (k : Nat) : LeO (parseOne k t ok p) (parseOne (k + 1) t ok p) := by
  unfold parseOne
  exact LeO.ite (LeO.bind (cellref_corner_values.mono _ _ _ _ _) (fun _ => LeO.ite (refEnd.mono _ _ _ _ _ _ _ _ _ _ _) (LeO.refl _))) (LeO.refl _)
theorem cellref_Parse.mono (a0 : ByteArray) (k : Nat) : LeO (cellref_Parse.f k a0) (cellref_Parse.f (k + 1) a0) := by
  unfold cellref_Parse.f
  refine LeO.ite (LeO.refl _) (LeO.ite (LeO.refl _) ?_)
  refine LeO.bind (cellref_sheet.mono _ _) (fun _ => LeO.bind (LeO.refl _) (fun _ => LeO.bind (LeO.refl _) (fun _ => ?_)))
  exact LeO.ite (LeO.bind (LeO.refl _) (fun _ => parseTwo.mono _ _ _ _ _)) (parseOne.mono _ _ _ _)
end Go.Proofs.YtefhcgnamfnkbaaDoor.Pr
