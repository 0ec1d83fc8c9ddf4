/- cellref.Parse: what it returns. -/
import Derived.Test.YtefhcgnamfnkbaaDoorPlace
import Derived.Test.YtefhcgnamfnkbaaDoorPrx3
import Derived.Test.YtefhcgnamfnkbaaDoorPrx6
namespace Go.Proofs.YtefhcgnamfnkbaaDoor.Pr
open Go.RowKit Go.Proofs.YtefhcgnamfnkbaaDoorW.PrintWords Go.Proofs.YtefhcgnamfnkbaaDoorW.PrintLast
abbrev RefE := ByteArray × Int × Int × Int × Int × Int × Bool × Bool × Bool × Bool × Int
/-- No reference, with an error. -/
def noRef (e : Int) : RefE := (⟨#[]⟩, 0, 0, 0, 0, 0, false, false, false, false, e)
def refLast (k : Nat) (s : ByteArray) (d n c n2 c2 : Int) (a b a2 b2 : Bool) : Option RefE :=
  (cellref_Check.f k s d n c n2 c2 a b a2 b2).bind fun e => if e = 0 then some (s, d, n, c, n2, c2, a, b, a2, b2, 0) else some (noRef e)
/-- Brought in order, and checked. -/
def refEnd (k : Nat) (s : ByteArray) (d n c n2 c2 : Int) (a b a2 b2 : Bool) : Option RefE :=
  (cellref_ordered.f s d n c n2 c2 a b a2 b2).bind fun o => refLast k o.1 o.2.1 o.2.2.1 o.2.2.2.1 o.2.2.2.2.1 o.2.2.2.2.2.1 o.2.2.2.2.2.2.1 o.2.2.2.2.2.2.2.1 o.2.2.2.2.2.2.2.2.1 o.2.2.2.2.2.2.2.2.2
/-- Whether the form is right: la, na, lb, nb say that letters and numbers are missing. -/
def formB (ok fine good la na lb nb two : Bool) : Bool := ok && (fine && (good && ((la == lb) && ((na == nb) && (two || (!la && !na))))))
def kindOf (la na : Bool) : Int := if !la && !na then 1 else if na then 3 else 2
def noL (s : ByteArray) : Bool := s.toList.isEmpty
abbrev CornT := ByteArray × ByteArray × Bool × Bool × Bool
def parseTwo (k : Nat) (title : ByteArray) (ok : Bool) (p q : CornT) : Option RefE :=
  if formB ok p.2.2.2.2 q.2.2.2.2 (noL p.1) (noL p.2.1) (noL q.1) (noL q.2.1) true = true then
    (cellref_corner_values.f k p.1 p.2.1 p.2.2.1 p.2.2.2.1).bind fun v =>
      if v.2.2 = 0 then (cellref_corner_values.f k q.1 q.2.1 q.2.2.1 q.2.2.2.1).bind fun u =>
        if u.2.2 = 0 then refEnd k title (kindOf (noL p.1) (noL p.2.1)) v.1 v.2.1 u.1 u.2.1 p.2.2.2.1 p.2.2.1 q.2.2.2.1 q.2.2.1 else some (noRef u.2.2)
      else some (noRef v.2.2)
  else some (noRef 10)
def parseOne (k : Nat) (title : ByteArray) (ok : Bool) (p : CornT) : Option RefE :=
  if formB ok p.2.2.2.2 true (noL p.1) (noL p.2.1) (noL p.1) (noL p.2.1) false = true then
    (cellref_corner_values.f k p.1 p.2.1 p.2.2.1 p.2.2.2.1).bind fun v =>
      if v.2.2 = 0 then refEnd k title 0 v.1 v.2.1 0 0 p.2.2.2.1 p.2.2.1 false false
      else some (noRef v.2.2)
  else some (noRef 10)
def cellref_Parse.f (k : Nat) (a0 : ByteArray) : Option RefE :=
  if 500 < a0.size then some (noRef 3)
  else if a0.toList = [35, 82, 69, 70, 33] then some (⟨#[]⟩, 4, 0, 0, 0, 0, false, false, false, false, 0)
  else (cellref_sheet.f k a0).bind fun t => (strings_Cut.f t.2.1 ⟨#[58]⟩).bind fun c => (cellref_place.f c.1).bind fun p =>
    if c.2.2 = true then (cellref_place.f c.2.1).bind fun q => parseTwo k t.1 t.2.2 p q
    else parseOne k t.1 t.2.2 p
end Go.Proofs.YtefhcgnamfnkbaaDoor.Pr
