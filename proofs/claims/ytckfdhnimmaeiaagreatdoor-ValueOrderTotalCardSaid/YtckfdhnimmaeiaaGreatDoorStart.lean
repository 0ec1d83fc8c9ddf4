/- A start for the witnesses of the seat's rows: the settled world, the listed variables holding what their initialisers lay; and what the rows' list gives to the walks. -/
import Derived.Test.YtckfdhnimmaeiaaGreatDoorCards
import Derived.Test.YtckfdhnimmaeiaaGreatDoorTie
import Derived.Test.YtckfdhnimmaeiaaGreatDoorEg
import Derived.WalkKit
import Derived.ProofKit
import Derived.OpenShut
import Derived.ShutString
import Derived.ChangeOld
import Derived.Deep.DeepHandedRow
import Derived.Deep.DeepWitnessRowRef
import Derived.LaidSub
import Derived.MakeChecks
import Derived.Lib.LaidU8
import Derived.Lib.LaidTab
namespace Go.Proofs.YtckfdhnimmaeiaaGreatDoor
open Go.ChangeShapes Go.WideShapes Go.ChangeAt Go.RowKit

theorem own : ownKnob Tryz.prog.godebug = none := by kernel_rfl
def putCells (h : Array Obj) (g : Nat) (cs : Array Value) : Array Obj := h.modify g fun
  | .cells _ t frozen => .cells cs t frozen
  | o => o
/-- THE WITNESSES' WORLD. -/
noncomputable def laidWorld (os : Os) : World :=
  let N := (World.settled Tryz.prog os).heap.size
  let w0 := World.holding Tryz.prog os ⟨#[.cells #[.string ⟨#[105, 110, 118, 97, 108, 105, 100, 32, 115, 121, 110, 116, 97, 120]⟩] 188, .cells #[.string ⟨#[118, 97, 108, 117, 101, 32, 111, 117, 116, 32, 111, 102, 32, 114, 97, 110, 103, 101]⟩] 188], #[], []⟩
  let h1 := putCells (putCells w0.heap 4 #[.iface 186 (.pointer (some ⟨N, 0, none⟩))]) 5 #[.iface 186 (.pointer (some ⟨N + 1, 0, none⟩))]
  let h2 := putCells h1 1 (Lib.firstTab.map fun z => Value.int .u8 z).toArray
  let h3 := putCells h2 2 #[.int .u8 128, .int .u8 191, .int .u8 160, .int .u8 191, .int .u8 128, .int .u8 159, .int .u8 144, .int .u8 191, .int .u8 128, .int .u8 143, .int .u8 0, .int .u8 0, .int .u8 0, .int .u8 0, .int .u8 0, .int .u8 0, .int .u8 0, .int .u8 0, .int .u8 0, .int .u8 0, .int .u8 0, .int .u8 0, .int .u8 0, .int .u8 0, .int .u8 0, .int .u8 0, .int .u8 0, .int .u8 0, .int .u8 0, .int .u8 0, .int .u8 0, .int .u8 0]
  let h4 := putCells h3 6 #[.int .u64 1, .int .u64 10, .int .u64 100, .int .u64 1000, .int .u64 10000, .int .u64 100000, .int .u64 1000000, .int .u64 10000000, .int .u64 100000000, .int .u64 1000000000, .int .u64 10000000000, .int .u64 100000000000, .int .u64 1000000000000, .int .u64 10000000000000, .int .u64 100000000000000, .int .u64 1000000000000000, .int .u64 10000000000000000, .int .u64 100000000000000000, .int .u64 1000000000000000000, .int .u64 10000000000000000000]
  let h5 := putCells h4 7 #[.int .u8 0, .int .u8 1, .int .u8 28, .int .u8 2, .int .u8 29, .int .u8 14, .int .u8 24, .int .u8 3, .int .u8 30, .int .u8 22, .int .u8 20, .int .u8 15, .int .u8 25, .int .u8 17, .int .u8 4, .int .u8 8, .int .u8 31, .int .u8 27, .int .u8 13, .int .u8 23, .int .u8 21, .int .u8 19, .int .u8 16, .int .u8 7, .int .u8 26, .int .u8 12, .int .u8 18, .int .u8 6, .int .u8 11, .int .u8 5, .int .u8 10, .int .u8 9]
  let h6 := putCells h5 8 #[.int .u8 0, .int .u8 1, .int .u8 56, .int .u8 2, .int .u8 57, .int .u8 49, .int .u8 28, .int .u8 3, .int .u8 61, .int .u8 58, .int .u8 42, .int .u8 50, .int .u8 38, .int .u8 29, .int .u8 17, .int .u8 4, .int .u8 62, .int .u8 47, .int .u8 59, .int .u8 36, .int .u8 45, .int .u8 43, .int .u8 51, .int .u8 22, .int .u8 53, .int .u8 39, .int .u8 33, .int .u8 30, .int .u8 24, .int .u8 18, .int .u8 12, .int .u8 5, .int .u8 63, .int .u8 55, .int .u8 48, .int .u8 27, .int .u8 60, .int .u8 41, .int .u8 37, .int .u8 16, .int .u8 46, .int .u8 35, .int .u8 44, .int .u8 21, .int .u8 52, .int .u8 32, .int .u8 23, .int .u8 11, .int .u8 54, .int .u8 26, .int .u8 40, .int .u8 15, .int .u8 34, .int .u8 20, .int .u8 31, .int .u8 10, .int .u8 25, .int .u8 14, .int .u8 19, .int .u8 9, .int .u8 13, .int .u8 8, .int .u8 7, .int .u8 6]
  let h7 := putCells h6 0 #[.string ⟨#[]⟩, .string ⟨#[35, 68, 73, 86, 47, 48, 33]⟩, .string ⟨#[35, 86, 65, 76, 85, 69, 33]⟩, .string ⟨#[35, 82, 69, 70, 33]⟩, .string ⟨#[35, 78, 65, 77, 69, 63]⟩, .string ⟨#[35, 78, 85, 77, 33]⟩, .string ⟨#[35, 78, 47, 65]⟩, .string ⟨#[35, 83, 80, 73, 76, 76, 33]⟩, .string ⟨#[35, 67, 89, 67, 76, 69, 33]⟩]
  { w0 with heap := h7 }

theorem pow10_data : (Rows.laid_internal_strconv_uint64pow10 : DataW Unit) = Lib.tabData .u64 Lib.pow10Tab := by kernel_rfl
theorem gFaults : Tryz.prog.globalNamed "chancery/value.faults" = some 0 := by kernel_rfl
theorem faults_data : (Rows.laid_chancery_value_faults : DataW Unit) = .agg (Pr.faultsL.map fun f => .lit (.string f.data.toList)) := by kernel_rfl

/-- What a row's list gives: the premises of the contracts. -/
theorem gl_of {W : World} {l : List (String × DataW Unit)} (hL : laidMetH Tryz.prog l W) (hs : W.ShapedOpen Tryz.prog)
    (hf : l.filter (fun x => x.1 == "internal/strconv.uint64pow10") = [("internal/strconv.uint64pow10", Rows.laid_internal_strconv_uint64pow10)]) : Gl W := by
  have h1 := laidMetH.filter (fun x => x.1 == "internal/strconv.uint64pow10") hL
  rw [hf, pow10_data, MakeChecks.laidMetH_plain _ _ _ (by kernel_rfl)] at h1
  have hp := Lib.tabIs_of_head (rest := []) gPow (by kernel_rfl) Tryz.underlying189 Tryz.underlying93 (by kernel_rfl) (by kernel_rfl) h1
  refine ⟨?_, Go.Proofs.cell_of_shapedOpen_int (zero := #[.int .i64 0]) (t := 3) hs (of_decide_eq_true (by kernel_rfl)) (by kernel_rfl) rfl (by kernel_rfl) (by kernel_rfl) Tryz.underlying3, hp⟩
  have hsome : (((begin Tryz.prog (fun _ _ => 0) default).world.heap[8]?).bind Obj.row?).isSome = true := by kernel_rfl
  obtain ⟨z, hz⟩ := Option.isSome_iff_exists.1 hsome
  have h10 : Tryz.prog.globals.size = 9 := by kernel_rfl
  obtain ⟨cs, h9, _⟩ := hs.1 8 z.1 z.2 (by rw [h10]; decide) hz
  have := (Array.getElem?_eq_some_iff.1 h9).1
  omega
/-- The names of the faults. -/
theorem fs_of {W : World} {l : List (String × DataW Unit)} (hL : laidMetH Tryz.prog l W)
    (hf : l.filter (fun x => x.1 == "chancery/value.faults") = [("chancery/value.faults", Rows.laid_chancery_value_faults)]) : Pr.Fs W := by
  have h1 := laidMetH.filter (fun x => x.1 == "chancery/value.faults") hL
  rw [hf, faults_data, MakeChecks.laidMetH_plain _ _ _ (by kernel_rfl)] at h1
  obtain ⟨g, t, cs, fuel, p, hg, ht, hv, hd⟩ := Lib.laidMet.reads h1 (List.mem_singleton.2 rfl)
  obtain rfl := Option.some.inj (gFaults.symm.trans hg)
  obtain rfl : 78 = t := Option.some.inj ((show (Tryz.prog.globals[0]?).map (·.type) = some 78 by kernel_rfl).symm.trans ht)
  intro i f hi
  have hi9 : i < 9 := by
    have := (List.getElem?_eq_some_iff.1 hi).1
    exact this
  obtain ⟨fuel', d, q, hdi, htr⟩ := Lib.array_elem Tryz.underlying78 hd i hi9
  have hc9 : Tryz.prog.cellsOf 9 = 1 := by kernel_rfl
  rw [hc9, Nat.mul_one] at htr
  obtain ⟨s, hcs, hdq, _⟩ := DataW.trod_string Tryz.underlying9 htr
  have hd' : d = .lit (.string s.data.toList) := congrArg Prod.fst hdq
  rw [List.getElem?_map, hi] at hdi
  simp only [Option.map_some, Option.some.injEq] at hdi
  rw [hd'] at hdi
  have hsf : s = f := by
    simp only [DataW.lit.injEq, Lit.string.injEq] at hdi
    have hdd : f.data = s.data := Array.toList_inj.1 hdi
    clear hd htr hdq hd' hcs hdi hi h1 hv
    cases s; cases f
    simp only at hdd
    rw [hdd]
  subst hsf
  have h2 : cs[i]? = some (.string s) := by
    have := congrArg (·[0]?) hcs
    simpa [List.getElem?_take, List.getElem?_drop] using this
  have := World.var?_cell gFaults hv i
  rw [this, h2]
end Go.Proofs.YtckfdhnimmaeiaaGreatDoor
