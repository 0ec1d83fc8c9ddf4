/-
  DERIVED. GIVEN WITH THE SEED: THE CARDS: each row of YtckfdhnimmaeiaaGreatDoorRows.lean that lists a variable, with what it lists TIED to the program's text (the seventh form; the later family's looks); each row that meets fmt, with fmt's text TOLD by the authors' own Lean function (tested against real Go, not proved from fmt's source: count such statements apart). THE CARD IS WHAT COUNTS. Prove the row's statement (the work); the ties are given (YtckfdhnimmaeiaaGreatDoorTie.lean); close each card by the builder's one call (the guide's Derived/Test/ToyasCard.lean, 'card_holds'). Laid BY PROGRAM, IN A SANDBOX (cutbox-door.mjs). By AI agents, Wed Nov 11 2026. No macro, syntax, notation, axiom, sorry.
-/
import Derived.Test.YtckfdhnimmaeiaaGreatDoorRows
import GoSem.ClaimSeven
namespace Go.Proofs.YtckfdhnimmaeiaaGreatDoor
namespace Rows

/-- THE TIED CARD OF 'chancerykeep2.DatesStep'. -/
def datesStepCard : Claim7 := { stood := { row := datesStepRow, standIns := [], harness := (true, "cda0ae5d592257dc54f2ba9037f5b27146b929c78ace73e773ab9b764ec13387"), looks := true }, kinds := [], alts := [], laidByText := true, laidKinds := [.data, .data, .data, .data, .sentinel, .sentinel, .data, .pinned], laidTests := true, laidLooks := .later }
def DatesStepCardSaid : Prop := Claim7.holds Tryz.pinned (.plain (OpenSpec.ofChange datesStepSpec)) datesStepCard

/-- THE TIED CARD OF 'chancerykeep2.ValueOrderTotal'. -/
def valueOrderTotalCard : Claim7 := { stood := { row := valueOrderTotalRow, standIns := [], harness := (true, "cda0ae5d592257dc54f2ba9037f5b27146b929c78ace73e773ab9b764ec13387"), looks := true }, kinds := [], alts := [], laidByText := true, laidKinds := [.data, .data, .data, .data, .sentinel, .sentinel, .data, .pinned], laidTests := true, laidLooks := .later }
def ValueOrderTotalCardSaid : Prop := Claim7.holds Tryz.pinned (.plain (OpenSpec.ofChange valueOrderTotalSpec)) valueOrderTotalCard

/-- THE TIED CARD OF 'chancerykeep2.ValueShownBack'. -/
def valueShownBackCard : Claim7 := { stood := { row := valueShownBackRow, standIns := [], harness := (true, "cda0ae5d592257dc54f2ba9037f5b27146b929c78ace73e773ab9b764ec13387"), looks := true }, kinds := [], alts := [], laidByText := true, laidKinds := [.data, .data, .data, .data, .sentinel, .sentinel, .data, .pinned], laidTests := true, laidLooks := .later }
def ValueShownBackCardSaid : Prop := Claim7.holds Tryz.pinned (.plain (OpenSpec.ofChange valueShownBackSpec)) valueShownBackCard

/-- THE SECOND FORM's CARD OF 'chancerykeep2.DatesStep'. -/
def datesStepUptoCard : Claim7 := { stood := { row := datesStepUptoRow, standIns := [], harness := (true, "cda0ae5d592257dc54f2ba9037f5b27146b929c78ace73e773ab9b764ec13387"), looks := true }, kinds := [], alts := [], laidByText := true, laidKinds := [.data, .data, .data, .data, .sentinel, .sentinel, .data, .pinned], laidTests := true, laidLooks := .later }
def DatesStepUptoCardSaid : Prop := Claim7.holds Tryz.pinned (.plain (OpenSpec.upto datesStepSpec)) datesStepUptoCard

/-- THE SECOND FORM's CARD OF 'chancerykeep2.ValueOrderTotal'. -/
def valueOrderTotalUptoCard : Claim7 := { stood := { row := valueOrderTotalUptoRow, standIns := [], harness := (true, "cda0ae5d592257dc54f2ba9037f5b27146b929c78ace73e773ab9b764ec13387"), looks := true }, kinds := [], alts := [], laidByText := true, laidKinds := [.data, .data, .data, .data, .sentinel, .sentinel, .data, .pinned], laidTests := true, laidLooks := .later }
def ValueOrderTotalUptoCardSaid : Prop := Claim7.holds Tryz.pinned (.plain (OpenSpec.upto valueOrderTotalSpec)) valueOrderTotalUptoCard

/-- THE SECOND FORM's CARD OF 'chancerykeep2.ValueShownBack'. -/
def valueShownBackUptoCard : Claim7 := { stood := { row := valueShownBackUptoRow, standIns := [], harness := (true, "cda0ae5d592257dc54f2ba9037f5b27146b929c78ace73e773ab9b764ec13387"), looks := true }, kinds := [], alts := [], laidByText := true, laidKinds := [.data, .data, .data, .data, .sentinel, .sentinel, .data, .pinned], laidTests := true, laidLooks := .later }
def ValueShownBackUptoCardSaid : Prop := Claim7.holds Tryz.pinned (.plain (OpenSpec.upto valueShownBackSpec)) valueShownBackUptoCard
end Rows
end Go.Proofs.YtckfdhnimmaeiaaGreatDoor
