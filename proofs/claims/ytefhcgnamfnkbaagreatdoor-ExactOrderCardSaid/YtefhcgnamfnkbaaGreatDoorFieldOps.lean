/- What the calls of ExactField answer. -/
import Derived.Test.YtefhcgnamfnkbaaGreatDoorOps
namespace Go.Proofs.YtefhcgnamfnkbaaGreatDoor.Pr
open Go.RowKit
/-- What the calls answer where the fractions have few digits. -/
structure FieldOps (k : Nat) (a0 a1 b0 b1 c0 c1 ab0 ab1 bc0 bc1 x0 x1 p0 p1 q0 q1 r0 r1 u0 u1 : ByteArray) : Prop where
  h5 : exact_Add.f k a0 a1 b0 b1 = some (ab0, ab1, 0)
  h6 : exact_Add.f k b0 b1 c0 c1 = some (bc0, bc1, 0)
  h7 : exact_Add.f k ab0 ab1 c0 c1 = some (x0, x1, 0)
  h8 : exact_Add.f k a0 a1 bc0 bc1 = some (x0, x1, 0)
  h9 : exact_Mul.f k a0 a1 bc0 bc1 = some (p0, p1, 0)
  h10 : exact_Mul.f k a0 a1 b0 b1 = some (q0, q1, 0)
  h11 : exact_Mul.f k a0 a1 c0 c1 = some (r0, r1, 0)
  h12 : exact_Add.f k q0 q1 r0 r1 = some (p0, p1, 0)
  h13 : exact_Add.f k b0 b1 a0 a1 = some (ab0, ab1, 0)
  h14 : exact_Sub.f k ab0 ab1 b0 b1 = some (a0, a1, 0)
  h19 : b0.toList ≠ [48] → exact_Div.f k a0 a1 b0 b1 = some (u0, u1, 0)
  h20 : b0.toList ≠ [48] → exact_Mul.f k u0 u1 b0 b1 = some (a0, a1, 0)

end Go.Proofs.YtefhcgnamfnkbaaGreatDoor.Pr
