/- A start for the witnesses of the seat's rows: the settled world, the listed variables holding what their initialisers lay; and what the rows' list gives to the walks. An api.Value handed by value: opened into its fields; its items in memory. What a row's list gives to the walks of values. -/
import Derived.Test.YtckfdhnimmaeiaaGreatDoorCards
import Derived.Test.YtckfdhnimmaeiaaGreatDoorTie
import Derived.Test.YtckfdhnimmaeiaaGreatDoorEg
import Derived.WalkKit
import Derived.ProofKit
import Derived.OpenShut
import Derived.ShutString
import Derived.ChangeOld
import Derived.Deep.DeepHandedRow
import Derived.Deep.DeepWitnessRowRef
import Derived.LaidSub
import Derived.MakeChecks
import Derived.Lib.LaidU8
import Derived.Lib.LaidTab
import Derived.Lib.SmallJoins
import Derived.ChangeMaps5
import Derived.Deep.Slices
import Derived.Lib.LaidU8T
import Derived.Test.YtckfdhnimmaeiaaGreatDoorFh
namespace Go.Proofs.YtckfdhnimmaeiaaGreatDoor
open Go.ChangeShapes Go.WideShapes Go.ChangeAt Go.RowKit
theorem own : ownKnob Tryz.prog.godebug = none := by kernel_rfl
def putCells (h : Array Obj) (g : Nat) (cs : Array Value) : Array Obj := h.modify g fun
  | .cells _ t frozen => .cells cs t frozen
  | o => o
/-- THE WITNESSES' WORLD. -/
noncomputable def laidWorld (os : Os) : World :=
  let N := (World.settled Tryz.prog os).heap.size
  let w0 := World.holding Tryz.prog os ⟨#[.cells #[.string ⟨#[105, 110, 118, 97, 108, 105, 100, 32, 115, 121, 110, 116, 97, 120]⟩] 188, .cells #[.string ⟨#[118, 97, 108, 117, 101, 32, 111, 117, 116, 32, 111, 102, 32, 114, 97, 110, 103, 101]⟩] 188], #[], []⟩
  let h1 := putCells (putCells w0.heap 4 #[.iface 186 (.pointer (some ⟨N, 0, none⟩))]) 5 #[.iface 186 (.pointer (some ⟨N + 1, 0, none⟩))]
  let h2 := putCells h1 1 (Lib.firstTab.map fun z => Value.int .u8 z).toArray
  let h3 := putCells h2 2 #[.int .u8 128, .int .u8 191, .int .u8 160, .int .u8 191, .int .u8 128, .int .u8 159, .int .u8 144, .int .u8 191, .int .u8 128, .int .u8 143, .int .u8 0, .int .u8 0, .int .u8 0, .int .u8 0, .int .u8 0, .int .u8 0, .int .u8 0, .int .u8 0, .int .u8 0, .int .u8 0, .int .u8 0, .int .u8 0, .int .u8 0, .int .u8 0, .int .u8 0, .int .u8 0, .int .u8 0, .int .u8 0, .int .u8 0, .int .u8 0, .int .u8 0, .int .u8 0]
  let h4 := putCells h3 6 #[.int .u64 1, .int .u64 10, .int .u64 100, .int .u64 1000, .int .u64 10000, .int .u64 100000, .int .u64 1000000, .int .u64 10000000, .int .u64 100000000, .int .u64 1000000000, .int .u64 10000000000, .int .u64 100000000000, .int .u64 1000000000000, .int .u64 10000000000000, .int .u64 100000000000000, .int .u64 1000000000000000, .int .u64 10000000000000000, .int .u64 100000000000000000, .int .u64 1000000000000000000, .int .u64 10000000000000000000]
  let h5 := putCells h4 7 #[.int .u8 0, .int .u8 1, .int .u8 28, .int .u8 2, .int .u8 29, .int .u8 14, .int .u8 24, .int .u8 3, .int .u8 30, .int .u8 22, .int .u8 20, .int .u8 15, .int .u8 25, .int .u8 17, .int .u8 4, .int .u8 8, .int .u8 31, .int .u8 27, .int .u8 13, .int .u8 23, .int .u8 21, .int .u8 19, .int .u8 16, .int .u8 7, .int .u8 26, .int .u8 12, .int .u8 18, .int .u8 6, .int .u8 11, .int .u8 5, .int .u8 10, .int .u8 9]
  let h6 := putCells h5 8 #[.int .u8 0, .int .u8 1, .int .u8 56, .int .u8 2, .int .u8 57, .int .u8 49, .int .u8 28, .int .u8 3, .int .u8 61, .int .u8 58, .int .u8 42, .int .u8 50, .int .u8 38, .int .u8 29, .int .u8 17, .int .u8 4, .int .u8 62, .int .u8 47, .int .u8 59, .int .u8 36, .int .u8 45, .int .u8 43, .int .u8 51, .int .u8 22, .int .u8 53, .int .u8 39, .int .u8 33, .int .u8 30, .int .u8 24, .int .u8 18, .int .u8 12, .int .u8 5, .int .u8 63, .int .u8 55, .int .u8 48, .int .u8 27, .int .u8 60, .int .u8 41, .int .u8 37, .int .u8 16, .int .u8 46, .int .u8 35, .int .u8 44, .int .u8 21, .int .u8 52, .int .u8 32, .int .u8 23, .int .u8 11, .int .u8 54, .int .u8 26, .int .u8 40, .int .u8 15, .int .u8 34, .int .u8 20, .int .u8 31, .int .u8 10, .int .u8 25, .int .u8 14, .int .u8 19, .int .u8 9, .int .u8 13, .int .u8 8, .int .u8 7, .int .u8 6]
  let h7 := putCells h6 0 #[.string ⟨#[]⟩, .string ⟨#[35, 68, 73, 86, 47, 48, 33]⟩, .string ⟨#[35, 86, 65, 76, 85, 69, 33]⟩, .string ⟨#[35, 82, 69, 70, 33]⟩, .string ⟨#[35, 78, 65, 77, 69, 63]⟩, .string ⟨#[35, 78, 85, 77, 33]⟩, .string ⟨#[35, 78, 47, 65]⟩, .string ⟨#[35, 83, 80, 73, 76, 76, 33]⟩, .string ⟨#[35, 67, 89, 67, 76, 69, 33]⟩]
  { w0 with heap := h7 }
theorem pow10_data : (Rows.laid_internal_strconv_uint64pow10 : DataW Unit) = Lib.tabData .u64 Lib.pow10Tab := by kernel_rfl
theorem gFaults : Tryz.prog.globalNamed "chancery/value.faults" = some 0 := by kernel_rfl
theorem faults_data : (Rows.laid_chancery_value_faults : DataW Unit) = .agg (Pr.faultsL.map fun f => .lit (.string f.data.toList)) := by kernel_rfl
/-- What a row's list gives: the premises of the contracts. -/
theorem gl_of {W : World} {l : List (String × DataW Unit)} (hL : laidMetH Tryz.prog l W) (hs : W.ShapedOpen Tryz.prog)
    (hf : l.filter (fun x => x.1 == "internal/strconv.uint64pow10") = [("internal/strconv.uint64pow10", Rows.laid_internal_strconv_uint64pow10)]) : Gl W := by
  have h1 := laidMetH.filter (fun x => x.1 == "internal/strconv.uint64pow10") hL
  rw [hf, pow10_data, MakeChecks.laidMetH_plain _ _ _ (by kernel_rfl)] at h1
  have hp := Lib.tabIs_of_head (rest := []) gPow (by kernel_rfl) Tryz.underlying189 Tryz.underlying93 (by kernel_rfl) (by kernel_rfl) h1
  refine ⟨?_, Go.Proofs.cell_of_shapedOpen_int (zero := #[.int .i64 0]) (t := 3) hs (of_decide_eq_true (by kernel_rfl)) (by kernel_rfl) rfl (by kernel_rfl) (by kernel_rfl) Tryz.underlying3, hp⟩
  have hsome : (((begin Tryz.prog (fun _ _ => 0) default).world.heap[8]?).bind Obj.row?).isSome = true := by kernel_rfl
  obtain ⟨z, hz⟩ := Option.isSome_iff_exists.1 hsome
  have h10 : Tryz.prog.globals.size = 9 := by kernel_rfl
  obtain ⟨cs, h9, _⟩ := hs.1 8 z.1 z.2 (by rw [h10]; decide) hz
  have := (Array.getElem?_eq_some_iff.1 h9).1
  omega
/-- The names of the faults. -/
theorem fs_of {W : World} {l : List (String × DataW Unit)} (hL : laidMetH Tryz.prog l W)
    (hf : l.filter (fun x => x.1 == "chancery/value.faults") = [("chancery/value.faults", Rows.laid_chancery_value_faults)]) : Pr.Fs W := by
  have h1 := laidMetH.filter (fun x => x.1 == "chancery/value.faults") hL
  rw [hf, faults_data, MakeChecks.laidMetH_plain _ _ _ (by kernel_rfl)] at h1
  obtain ⟨g, t, cs, fuel, p, hg, ht, hv, hd⟩ := Lib.laidMet.reads h1 (List.mem_singleton.2 rfl)
  obtain rfl := Option.some.inj (gFaults.symm.trans hg)
  obtain rfl : 78 = t := Option.some.inj ((show (Tryz.prog.globals[0]?).map (·.type) = some 78 by kernel_rfl).symm.trans ht)
  intro i f hi
  have hi9 : i < 9 := by
    have := (List.getElem?_eq_some_iff.1 hi).1
    exact this
  obtain ⟨fuel', d, q, hdi, htr⟩ := Lib.array_elem Tryz.underlying78 hd i hi9
  have hc9 : Tryz.prog.cellsOf 9 = 1 := by kernel_rfl
  rw [hc9, Nat.mul_one] at htr
  obtain ⟨s, hcs, hdq, _⟩ := DataW.trod_string Tryz.underlying9 htr
  have hd' : d = .lit (.string s.data.toList) := congrArg Prod.fst hdq
  rw [List.getElem?_map, hi] at hdi
  simp only [Option.map_some, Option.some.injEq] at hdi
  rw [hd'] at hdi
  have hsf : s = f := by
    simp only [DataW.lit.injEq, Lit.string.injEq] at hdi
    have hdd : f.data = s.data := Array.toList_inj.1 hdi
    clear hd htr hdq hd' hcs hdi hi h1 hv
    cases s; cases f
    simp only at hdd
    rw [hdd]
  subst hsf
  have h2 : cs[i]? = some (.string s) := by
    have := congrArg (·[0]?) hcs
    simpa [List.getElem?_take, List.getElem?_drop] using this
  have := World.var?_cell gFaults hv i
  rw [this, h2]
end Go.Proofs.YtckfdhnimmaeiaaGreatDoor
namespace Go.Proofs.YtckfdhnimmaeiaaGreatDoor
open Go.ChangeShapes Go.WideShapes Go.ChangeAt Go.RowKit Go.Shelf
theorem first_data : (Rows.laid_unicode_utf8_first : DataW Unit) = Lib.firstData := by kernel_rfl
theorem accept_data : (Rows.laid_unicode_utf8_acceptRanges : DataW Unit) = Lib.acceptData := by kernel_rfl
def renU8 : Go.Shelf.Ren := ⟨fun n => n, fun | 119 => 137 | 138 => 139 | 139 => 140 | n => n, fun | 3 => 1 | 4 => 2 | n => n⟩
/-- The tables of unicode/utf8. -/
theorem u8_of {W : World} {l : List (String × DataW Unit)} (hL : laidMetH Tryz.prog l W)
    (hf1 : l.filter (fun x => x.1 == "unicode/utf8.first") = [("unicode/utf8.first", Rows.laid_unicode_utf8_first)])
    (hf2 : l.filter (fun x => x.1 == "unicode/utf8.acceptRanges") = [("unicode/utf8.acceptRanges", Rows.laid_unicode_utf8_acceptRanges)]) : Lib.Utf8Tabs 1 2 W := by
  have h1 := laidMetH.filter (fun x => x.1 == "unicode/utf8.first") hL
  rw [hf1, first_data, MakeChecks.laidMetH_plain _ _ _ (by kernel_rfl)] at h1
  have h2 := laidMetH.filter (fun x => x.1 == "unicode/utf8.acceptRanges") hL
  rw [hf2, accept_data, MakeChecks.laidMetH_plain _ _ _ (by kernel_rfl)] at h2
  exact utf8Tabs_of_readsT (ρ := renU8) ⟨Tryz.underlying5, Tryz.underlying137, Tryz.underlying139, Tryz.underlying140⟩ ⟨by kernel_rfl, by kernel_rfl, by kernel_rfl, by kernel_rfl, by kernel_rfl, by kernel_rfl, by kernel_rfl⟩ (Lib.laidMet.reads h1 (List.mem_singleton.2 rfl)) (Lib.laidMet.reads h2 (List.mem_singleton.2 rfl))
/-- What a row's list gives to the walks of values. -/
theorem wd_of {W : World} {l : List (String × DataW Unit)} (hL : laidMetH Tryz.prog l W) (hs : W.ShapedOpen Tryz.prog)
    (hf : l.filter (fun x => x.1 == "internal/strconv.uint64pow10") = [("internal/strconv.uint64pow10", Rows.laid_internal_strconv_uint64pow10)])
    (hg : l.filter (fun x => x.1 == "chancery/value.faults") = [("chancery/value.faults", Rows.laid_chancery_value_faults)])
    (hf1 : l.filter (fun x => x.1 == "unicode/utf8.first") = [("unicode/utf8.first", Rows.laid_unicode_utf8_first)])
    (hf2 : l.filter (fun x => x.1 == "unicode/utf8.acceptRanges") = [("unicode/utf8.acceptRanges", Rows.laid_unicode_utf8_acceptRanges)]) : Pr.Wd W :=
  ⟨gl_of hL hs hf, fs_of hL hg, u8_of hL hf1 hf2⟩
end Go.Proofs.YtckfdhnimmaeiaaGreatDoor
namespace Go.Proofs.YtckfdhnimmaeiaaGreatDoor.ValArg
open Go.ChangeShapes Go.WideShapes Go.RowKit Go.Deep Go.WideElems Go.Maps Go.Joins
open Go.Proofs.YtckfdhnimmaeiaaGreatDoor Go.Proofs.YtckfdhnimmaeiaaGreatDoor.Pr
variable {H : Type} {enc : TypeId × Value → H}
set_option maxRecDepth 100000 in
theorem list9 (T : List Value) (h : T.length = 9) : ∃ v0 v1 v2 v3 v4 v5 v6 v7 v8 : Value, T = [v0, v1, v2, v3, v4, v5, v6, v7, v8] := by
  match T, h with
  | [v0, v1, v2, v3, v4, v5, v6, v7, v8], _ => exact ⟨v0, v1, v2, v3, v4, v5, v6, v7, v8, rfl⟩
theorem cells33 : Tryz.prog.cellsOf 33 = 9 := by kernel_rfl
theorem cells30 : Tryz.prog.cellsOf 30 = 2 := by kernel_rfl
theorem cells31 : Tryz.prog.cellsOf 31 = 1 := by kernel_rfl
theorem cells9 : Tryz.prog.cellsOf 9 = 1 := by kernel_rfl
theorem cells3 : Tryz.prog.cellsOf 3 = 1 := by kernel_rfl
theorem cells4 : Tryz.prog.cellsOf 4 = 1 := by kernel_rfl
set_option maxRecDepth 100000 in
set_option maxHeartbeats 1000000 in
/-- The cells of a value. -/
theorem open_cells {w : World} {base : Nat} {spare : Nat → Bool} {held : Bool} {cs : List Value} {x : DataW H × List MemPlace} {fuel : Nat} (hl : cs.length = 9)
    (h : DataW.trod enc Tryz.prog w base spare held fuel 33 cs = some x) :
    ∃ (k : Int) (t o s : ByteArray) (b : Bool) (c r q : Int) (v8 : Value), cs = [.int .i64 k, .string t, .string o, .string s, .bool b, .int .i64 c, .int .i64 r, .int .i64 q, v8] ∧ t.size ≤ maxLen ∧ o.size ≤ maxLen ∧ s.size ≤ maxLen ∧ ∃ n y, DataW.trod enc Tryz.prog w base spare held n 31 [v8] = some y := by
  obtain ⟨c0, c1, c2, c3, c4, c5, c6, c7, c8, rfl⟩ := list9 cs hl
  obtain ⟨xs, n, _, hx, hl2, hlen, hf⟩ := DataW.trod_struct Tryz.underlying33 h
  match xs, hlen with
  | [y0, y1, y2, y3, y4, y5, y6, y7], _ =>
    have h0 := hf 0 _ rfl
    have h1 := hf 1 _ rfl
    have h2 := hf 2 _ rfl
    have h3 := hf 3 _ rfl
    have h4 := hf 4 _ rfl
    have h5 := hf 5 _ rfl
    have h6 := hf 6 _ rfl
    have h7 := hf 7 _ rfl
    clear hf hl hl2 hx h
    obtain ⟨z0, e0, _, _⟩ := DataW.trod_int Tryz.underlying3 h0
    simp [cells3] at e0
    subst e0
    obtain ⟨ys, m, _, _, hl3, hlen3, hg⟩ := DataW.trod_struct Tryz.underlying30 h1
    match ys, hlen3 with
    | [u0, u1], _ =>
      have g0 := hg 0 _ rfl
      have g1 := hg 1 _ rfl
      clear hg hl3 h1
      obtain ⟨z1, e1, _, w1⟩ := DataW.trod_string Tryz.underlying9 g0
      simp [cells9, cells30] at e1
      subst e1
      obtain ⟨z2, e2, _, w2⟩ := DataW.trod_string Tryz.underlying9 g1
      simp [cells9, cells30] at e2
      subst e2
      obtain ⟨z3, e3, _, w3⟩ := DataW.trod_string Tryz.underlying9 h2
      simp [cells9] at e3
      subst e3
      obtain ⟨z4, e4, _⟩ := DataW.trod_bool Tryz.underlying4 h3
      simp [cells4] at e4
      subst e4
      obtain ⟨z5, e5, _, _⟩ := DataW.trod_int Tryz.underlying3 h4
      simp [cells3] at e5
      subst e5
      obtain ⟨z6, e6, _, _⟩ := DataW.trod_int Tryz.underlying3 h5
      simp [cells3] at e6
      subst e6
      obtain ⟨z7, e7, _, _⟩ := DataW.trod_int Tryz.underlying3 h6
      simp [cells3] at e7
      subst e7
      simp [cells31] at h7
      exact ⟨z0, z1, z2, z3, z4, z5, z6, z7, c8, rfl, w1, w2, w3, n, _, h7⟩
set_option maxRecDepth 100000 in
set_option maxHeartbeats 1000000 in
/-- The items behind a slice of values. -/
theorem open_items {w : World} {base : Nat} {spare : Nat → Bool} {held : Bool} {v : Value} {x : DataW H × List MemPlace} {fuel : Nat} (h : DataW.trod enc Tryz.prog w base spare held fuel 31 [v] = some x) :
    ∃ p n p0, v = .slice p n p0 ∧ Itm w p n := by
  rcases open_slice Tryz.underlying31 h with ⟨e, _⟩ | ⟨a, len, cap, m, n, D, Pl, e, _, hl, hm, hmm, _, hall⟩
  · simp only [List.cons.injEq, and_true] at e
    exact ⟨none, 0, 0, e, Nat.zero_le _, fun i hi => absurd hi (Nat.not_lt_zero i)⟩
  · simp only [List.cons.injEq, and_true] at e
    refine ⟨some a, len, cap, e, Nat.le_trans hl hm, fun i hi => ⟨a, rfl, ?_⟩⟩
    have him : i < m := by rw [hmm]; split <;> omega
    obtain ⟨cs', h1, h2⟩ := hall i him
    rw [cells33] at h1
    obtain ⟨_, h3, h4⟩ := World.cells?_some h1
    obtain ⟨k, t, o, s, b, c, r, q, v8, rfl, w1, w2, w3, nn, yy, h5⟩ := open_cells h3 h2
    have hv8 : ∃ p n p0, v8 = .slice p n p0 := by
      rcases open_slice Tryz.underlying31 h5 with ⟨e, _⟩ | ⟨a, len, cap, m, n, D, Pl, e, _⟩
      · simp only [List.cons.injEq, and_true] at e
        exact ⟨_, _, _, e⟩
      · simp only [List.cons.injEq, and_true] at e
        exact ⟨_, _, _, e⟩
    obtain ⟨p', n', p0', rfl⟩ := hv8
    have at0 : ∀ (z : Addr) (j : Nat), 0 < j → z.add j = ⟨z.block, z.off + j, none⟩ := fun z j hj => by
      unfold Addr.add
      rw [if_neg (by omega)]
    have at_ := at0 (a.add (i * 9))
    have f0 := h4 0 (by decide)
    have f1 := h4 1 (by decide)
    have f2 := h4 2 (by decide)
    have f3 := h4 3 (by decide)
    have f4 := h4 4 (by decide)
    have f5 := h4 5 (by decide)
    have f6 := h4 6 (by decide)
    have f7 := h4 7 (by decide)
    have f8 := h4 8 (by decide)
    rw [show (a.add (i * 9)).add 0 = a.add (i * 9) from rfl] at f0
    rw [at_ _ (by decide)] at f1 f2 f3 f4 f5 f6 f7 f8
    exact ⟨k, t, o, s, b, c, r, q, p', n', p0', f0, f1, f2, f3, f4, f5, f6, f7, f8, w1, w2, w3⟩
set_option maxRecDepth 100000 in
/-- A value, opened. -/
theorem open_value {w : World} {base : Nat} {spare : Nat → Bool} {held : Bool} {r' : Reach} {b0 : Nat} {v : Value} {d : DataW H} {pl : List MemPlace}
    (hv : Value.okWide Tryz.prog w r' b0 33 v) (h : DataW.Trod enc Tryz.prog w base spare held 33 v d pl) :
    ∃ (k : Int) (t o s : ByteArray) (b : Bool) (c r q : Int) (p : Option Addr) (n p0 : Nat), v = .agg #[.int .i64 k, .string t, .string o, .string s, .bool b, .int .i64 c, .int .i64 r, .int .i64 q, .slice p n p0] ∧ t.size ≤ maxLen ∧ o.size ≤ maxLen ∧ s.size ≤ maxLen ∧ Itm w p n := by
  obtain ⟨cs, rfl, hsz⟩ := okWide_struct Tryz.underlying33 hv
  rw [cells33] at hsz
  obtain ⟨fuel, hf⟩ := h
  obtain ⟨k, t, o, s, b, c, r, q, v8, e, w1, w2, w3, n, y, h8⟩ := open_cells (cs := cs.toList) (by simpa using hsz) (by simpa [Value.cells] using hf)
  obtain ⟨p, n, p0, rfl, hI⟩ := open_items h8
  refine ⟨k, t, o, s, b, c, r, q, p, n, p0, ?_, w1, w2, w3, hI⟩
  have : cs = #[.int .i64 k, .string t, .string o, .string s, .bool b, .int .i64 c, .int .i64 r, .int .i64 q, .slice p n p0] := by
    cases cs
    simp only at e
    rw [e]
  rw [this]
end Go.Proofs.YtckfdhnimmaeiaaGreatDoor.ValArg
