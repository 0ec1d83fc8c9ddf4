/- chancerykeep2.fractions answers true. -/
import Derived.Test.YtefhcgnamfnkbaaGreatDoorPrx7
namespace Go.Proofs.YtefhcgnamfnkbaaGreatDoor.Pr
open Go.RowKit Go.Proofs.YtefhcgnamfnkbaaGreatDoorW.PrintWords

theorem fractions_f : chancerykeep2_fractions.f 100 = some true := by decide +kernel
theorem fractions_true (w : World) (hGl : Gl w) : Calls Tryz.prog 8 #[] w fun e w' => e = .returned (.bool true) ∧ Below w.heap.size w w' := chancerykeep2_fractions.calls 100 true w hGl fractions_f
end Go.Proofs.YtefhcgnamfnkbaaGreatDoor.Pr
