/- exact.exponent where nothing is left: all that the laws of this seat need of it. -/
import Derived.Test.YtefhcgnamfnkbaaGreatDoorPrx0
import Derived.Test.YtefhcgnamfnkbaaGreatDoorPrx4
import Derived.Test.YtefhcgnamfnkbaaGreatDoorGiven
namespace Go.Proofs.YtefhcgnamfnkbaaGreatDoor.Pr
open Go.RowKit Go.Proofs.YtefhcgnamfnkbaaGreatDoorW.PrintWords Go.Proofs.YtefhcgnamfnkbaaGreatDoorW.PrintLast Go.Proofs.YtefhcgnamfnkbaaGreatDoorW.PrintMore

/-- exact.exponent of an empty text; nothing is told of other texts. -/
def exact_exponent.f (_k : Nat) (a0 : ByteArray) : Option (Int × Bool) := if a0.toList = ([] : List UInt8) then some (0, true) else none
theorem exact_exponent.mono : ∀ a0 k, LeO (exact_exponent.f k a0) (exact_exponent.f (k + 1) a0) := fun _ _ => LeO.refl _
set_option maxHeartbeats 2000000 in
set_option maxRecDepth 100000 in
theorem exact_exponent.calls (k : Nat) (a0 : ByteArray) (r1 : Int) (r2 : Bool) (w : World) (_hGl : Gl w) (h : exact_exponent.f k a0 = some (r1, r2)) :
    Calls Tryz.prog 61 #[.string a0] w fun e w' => e = .returned (.tuple #[.int .i64 r1, .bool r2]) ∧ Below w.heap.size w w' := by
  unfold exact_exponent.f at h
  split at h
  · rename_i hs
    simp only [Option.some.injEq, Prod.mk.injEq] at h
    obtain ⟨rfl, rfl⟩ := h
    have e : a0 = ⟨#[]⟩ := by
      rw [ByteArray.toList_eq] at hs
      obtain ⟨d⟩ := a0
      have : d = #[] := Array.toList_eq_nil_iff.1 hs
      rw [this]
    subst e
    clear hs
    go_enter Tryz.func61, Tryz.ntmps61
    go_wp2
    go_ret2
    exact ⟨rfl, Below.refl _ _⟩
  · cases h
end Go.Proofs.YtefhcgnamfnkbaaGreatDoor.Pr
