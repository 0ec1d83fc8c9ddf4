/- What the calls of ExactOrder answer. -/
import Derived.Test.YtefhcgnamfnkbaaGreatDoorOps
import Derived.Test.YtefhcgnamfnkbaaGreatDoorComp
import Derived.Test.YtefhcgnamfnkbaaGreatDoorFloor
namespace Go.Proofs.YtefhcgnamfnkbaaGreatDoor.Pr
open Go.RowKit
/-- What the calls answer where the fractions have few digits. -/
structure OrderOps (k : Nat) (a0 a1 b0 b1 d0 d1 f0 up0 up1 : ByteArray) (n c : Int) (hp : Bool) : Prop where
  h5 : exact_Compare.f k a0 a1 b0 b1 = some (n, 0)
  h6 : exact_Compare.f k b0 b1 a0 a1 = some (-n, 0)
  h7 : exact_Sub.f k a0 a1 b0 b1 = some (d0, d1, 0)
  h8 : exact_Floor.f k a0 a1 = some (f0, ⟨#[49]⟩, 0)
  h9 : exact_Compare.f k f0 ⟨#[49]⟩ a0 a1 = some (c, 0)
  c0 : c ≤ 0
  o : exact_Of.f 1 = some (⟨#[49]⟩, ⟨#[49]⟩)
  h10 : exact_Add.f k f0 ⟨#[49]⟩ ⟨#[49]⟩ ⟨#[49]⟩ = some (up0, up1, 0)
  h11 : exact_Compare.f k up0 up1 a0 a1 = some (1, 0)
  n1 : n = -1 ∨ n = 0 ∨ n = 1
  hp1 : strings_HasPrefix.f d0 ⟨#[45]⟩ = some hp
  hp2 : hp = decide (n < 0)
  dz : d0.toList = [48] ↔ n = 0
  ab : (a0.toList = b0.toList ∧ a1.toList = b1.toList) ↔ n = 0
end Go.Proofs.YtefhcgnamfnkbaaGreatDoor.Pr
