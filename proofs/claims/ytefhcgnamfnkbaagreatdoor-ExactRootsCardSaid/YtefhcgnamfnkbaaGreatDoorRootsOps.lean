/- What the calls of ExactRoots answer. -/
import Derived.Test.YtefhcgnamfnkbaaGreatDoorOps
import Derived.Test.YtefhcgnamfnkbaaGreatDoorRound
import Derived.Test.YtefhcgnamfnkbaaGreatDoorSqrt
import Derived.Test.YtefhcgnamfnkbaaGreatDoorComp
import Derived.Test.YtefhcgnamfnkbaaGreatDoorPrx4
import Derived.Test.YtefhcgnamfnkbaaGreatDoorMod
namespace Go.Proofs.YtefhcgnamfnkbaaGreatDoor.Pr
open Go.RowKit
structure RootsOps (k : Nat) (a0 a1 b0 b1 : ByteArray) (n : Int) (r0 r1 s0 s1 x0 x1 y0 y1 : ByteArray) (j : Nat) (c d : Int) : Prop where
  hm : chancerykeep2_mod.f n 12 = some (j : Int)
  hj : j ≤ 11
  h6 : exact_Round.f k a0 a1 (j : Int) = some (r0, r1, 0)
  h7 : exact_Mul.f k r0 r1 r0 r1 = some (s0, s1, 0)
  h8 : exact_Root.f k s0 s1 j = some (r0, r1, 0)
  h9 : exact_Root.f k a0 a1 j = some (x0, x1, 0)
  h10 : exact_Root.f k b0 b1 j = some (y0, y1, 0)
  h11 : exact_Compare.f k a0 a1 b0 b1 = some (c, 0)
  h12 : exact_Compare.f k x0 x1 y0 y1 = some (d, 0)
  e1 : 0 < c → 0 ≤ d
  e2 : c < 0 → d ≤ 0
end Go.Proofs.YtefhcgnamfnkbaaGreatDoor.Pr
