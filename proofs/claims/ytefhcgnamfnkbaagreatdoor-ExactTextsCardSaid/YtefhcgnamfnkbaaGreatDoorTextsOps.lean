/- What the calls of ExactTexts and ExactRoots answer. -/
import Derived.Test.YtefhcgnamfnkbaaGreatDoorOps
import Derived.Test.YtefhcgnamfnkbaaGreatDoorShelf
import Derived.Test.YtefhcgnamfnkbaaGreatDoorFixed
import Derived.Test.YtefhcgnamfnkbaaGreatDoorShort
import Derived.Test.YtefhcgnamfnkbaaGreatDoorPrx6
import Derived.Test.YtefhcgnamfnkbaaGreatDoorMod
namespace Go.Proofs.YtefhcgnamfnkbaaGreatDoor.Pr
open Go.RowKit Go.Proofs.YtefhcgnamfnkbaaGreatDoorW.PrintWords
def strings_Cut.f (a0 a1 : ByteArray) : Option (ByteArray × ByteArray × Bool) :=
  if a0.size < 4294967281 then some (⟨(Lib.cut a0.data.toList a1.data.toList).1.toArray⟩, ⟨(Lib.cut a0.data.toList a1.data.toList).2.1.toArray⟩, (Lib.cut a0.data.toList a1.data.toList).2.2) else none
theorem strings_Cut.calls (a0 a1 : ByteArray) (r1 r2 : ByteArray) (r3 : Bool) (w : World) (hGl : Gl w) (h : strings_Cut.f a0 a1 = some (r1, r2, r3)) :
    Calls Tryz.prog 23 #[.string a0, .string a1] w fun e w' => e = .returned (.tuple #[.string r1, .string r2, .bool r3]) ∧ Below w.heap.size w w' := by
  unfold strings_Cut.f at h
  split at h
  · rename_i hs
    simp only [Option.some.injEq, Prod.mk.injEq] at h
    obtain ⟨rfl, rfl, rfl⟩ := h
    obtain ⟨m, hm⟩ := hGl.most
    refine (Tryz.strings_Cut a0 a1 m w hs hm).mono ?_
    rintro e w' ⟨rfl, hw⟩
    exact ⟨rfl, (Drawn0.mk hw).below⟩
  · cases h
/-- What the calls answer where the fraction has a decimal text. -/
structure TextsOps (k : Nat) (a0 a1 : ByteArray) (n : Int) (s u v t : ByteArray) (fd : Bool) (j : Nat) : Prop where
  h5 : exact_Shortest.f k a0 a1 = some (s, true, 0)
  h10 : exact_Parse.f k s = some (a0, a1, 0)
  h11 : strings_Cut.f s ⟨#[46]⟩ = some (u, v, fd)
  hm : chancerykeep2_mod.f n 5 = some (j : Int)
  hj : j ≤ 4
  hv : v.size ≤ 133
  h12 : exact_Fixed.f k a0 a1 (min 100 (v.size + j)) = some (t, 0)
  h15 : v.size ≤ 100 → exact_Parse.f k t = some (a0, a1, 0)
end Go.Proofs.YtefhcgnamfnkbaaGreatDoor.Pr
