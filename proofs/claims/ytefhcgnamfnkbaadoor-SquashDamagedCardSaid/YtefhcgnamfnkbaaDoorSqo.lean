/- A start for SquashDamaged's witness: the settled world, the listed variables holding what their initialisers lay; and what the row's list gives to the walks: the lengths of squash.bases. -/
import Derived.Test.YtefhcgnamfnkbaaDoorCards
import Derived.Test.YtefhcgnamfnkbaaDoorTie
import Derived.Test.YtefhcgnamfnkbaaDoorSqb
import Derived.WalkKit
import Derived.ProofKit
import Derived.OpenShut
import Derived.ShutString
import Derived.ChangeOld
import Derived.Deep.DeepHandedRow
import Derived.Deep.DeepWitnessRowRef
import Derived.LaidSub
import Derived.MakeChecks
import Derived.Lib.LaidU8
import Derived.Lib.LaidTab
namespace Go.Proofs.YtefhcgnamfnkbaaDoor
open Go.ChangeShapes Go.WideShapes Go.ChangeAt Go.RowKit

theorem own : ownKnob Tryd.prog.godebug = none := by kernel_rfl
def putCells (h : Array Obj) (g : Nat) (cs : Array Value) : Array Obj := h.modify g fun
  | .cells _ t frozen => .cells cs t frozen
  | o => o
/-- THE WITNESSES' WORLD. -/
noncomputable def laidWorld (os : Os) : World :=
  let N := (World.settled Tryd.prog os).heap.size
  let w0 := World.holding Tryd.prog os ⟨#[.cells #[.string ⟨#[105, 110, 118, 97, 108, 105, 100, 32, 115, 121, 110, 116, 97, 120]⟩] 220, .cells #[.string ⟨#[118, 97, 108, 117, 101, 32, 111, 117, 116, 32, 111, 102, 32, 114, 97, 110, 103, 101]⟩] 220], #[], []⟩
  let h1 := putCells (putCells w0.heap 5 #[.iface 218 (.pointer (some ⟨N, 0, none⟩))]) 6 #[.iface 218 (.pointer (some ⟨N + 1, 0, none⟩))]
  let h2 := putCells h1 3 (Lib.firstTab.map fun z => Value.int .u8 z).toArray
  let h3 := putCells h2 4 #[.int .u8 128, .int .u8 191, .int .u8 160, .int .u8 191, .int .u8 128, .int .u8 159, .int .u8 144, .int .u8 191, .int .u8 128, .int .u8 143, .int .u8 0, .int .u8 0, .int .u8 0, .int .u8 0, .int .u8 0, .int .u8 0, .int .u8 0, .int .u8 0, .int .u8 0, .int .u8 0, .int .u8 0, .int .u8 0, .int .u8 0, .int .u8 0, .int .u8 0, .int .u8 0, .int .u8 0, .int .u8 0, .int .u8 0, .int .u8 0, .int .u8 0, .int .u8 0]
  let h4 := putCells h3 7 #[.int .u64 1, .int .u64 10, .int .u64 100, .int .u64 1000, .int .u64 10000, .int .u64 100000, .int .u64 1000000, .int .u64 10000000, .int .u64 100000000, .int .u64 1000000000, .int .u64 10000000000, .int .u64 100000000000, .int .u64 1000000000000, .int .u64 10000000000000, .int .u64 100000000000000, .int .u64 1000000000000000, .int .u64 10000000000000000, .int .u64 100000000000000000, .int .u64 1000000000000000000, .int .u64 10000000000000000000]
  let h5 := putCells h4 8 #[.int .u8 0, .int .u8 1, .int .u8 28, .int .u8 2, .int .u8 29, .int .u8 14, .int .u8 24, .int .u8 3, .int .u8 30, .int .u8 22, .int .u8 20, .int .u8 15, .int .u8 25, .int .u8 17, .int .u8 4, .int .u8 8, .int .u8 31, .int .u8 27, .int .u8 13, .int .u8 23, .int .u8 21, .int .u8 19, .int .u8 16, .int .u8 7, .int .u8 26, .int .u8 12, .int .u8 18, .int .u8 6, .int .u8 11, .int .u8 5, .int .u8 10, .int .u8 9]
  let h6 := putCells h5 9 #[.int .u8 0, .int .u8 1, .int .u8 56, .int .u8 2, .int .u8 57, .int .u8 49, .int .u8 28, .int .u8 3, .int .u8 61, .int .u8 58, .int .u8 42, .int .u8 50, .int .u8 38, .int .u8 29, .int .u8 17, .int .u8 4, .int .u8 62, .int .u8 47, .int .u8 59, .int .u8 36, .int .u8 45, .int .u8 43, .int .u8 51, .int .u8 22, .int .u8 53, .int .u8 39, .int .u8 33, .int .u8 30, .int .u8 24, .int .u8 18, .int .u8 12, .int .u8 5, .int .u8 63, .int .u8 55, .int .u8 48, .int .u8 27, .int .u8 60, .int .u8 41, .int .u8 37, .int .u8 16, .int .u8 46, .int .u8 35, .int .u8 44, .int .u8 21, .int .u8 52, .int .u8 32, .int .u8 23, .int .u8 11, .int .u8 54, .int .u8 26, .int .u8 40, .int .u8 15, .int .u8 34, .int .u8 20, .int .u8 31, .int .u8 10, .int .u8 25, .int .u8 14, .int .u8 19, .int .u8 9, .int .u8 13, .int .u8 8, .int .u8 7, .int .u8 6]
  let h7 := putCells h6 0 #[.int .i64 11, .int .i64 13, .int .i64 17, .int .i64 25, .int .i64 41, .int .i64 73, .int .i64 137, .int .i64 265]
  { w0 with heap := h7 }

theorem bases_data : (Rows.laid_chancery_squash_bases : DataW Unit) = Lib.tabData .i64 Pr.basesL := by kernel_rfl
theorem gBases : Tryd.prog.globalNamed "chancery/squash.bases" = some 0 := by kernel_rfl
/-- What the row's list gives: the premise of the contracts. -/
theorem gb_of {W : World} {l : List (String × DataW Unit)} (hL : laidMetH Tryd.prog l W)
    (hf : l.filter (fun x => x.1 == "chancery/squash.bases") = [("chancery/squash.bases", Rows.laid_chancery_squash_bases)]) : Pr.Gb W ∧ 1 ≤ W.heap.size := by
  have h1 := laidMetH.filter (fun x => x.1 == "chancery/squash.bases") hL
  rw [hf, bases_data, MakeChecks.laidMetH_plain _ _ _ (by kernel_rfl)] at h1
  have hp := Lib.tabIs_of_head (rest := []) gBases (by kernel_rfl) Tryd.underlying169 Tryd.underlying3 (by kernel_rfl) (by kernel_rfl) h1
  have hc : Pr.Gb W := fun i b e => by
    obtain ⟨hi, hb⟩ := List.getElem?_eq_some_iff.1 e
    have hh := hp.cell gBases i hi
    rw [List.getD_eq_getElem?_getD, e] at hh
    exact hh
  exact ⟨hc, World.block_lt_of_cell? W _ (hc 0 11 rfl)⟩
end Go.Proofs.YtefhcgnamfnkbaaDoor
