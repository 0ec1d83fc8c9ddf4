/- A start for the witness of a row that lists unicode.CaseRanges. -/
import Derived.Test.YtefhcgnamfnkbaaDoorStart
import Derived.Lib.LaidCaseMet
namespace Go.Proofs.YtefhcgnamfnkbaaDoor
open Go.ChangeShapes Go.WideShapes Go.ChangeAt Go.RowKit

/-- The witnesses' world where the row lists unicode.CaseRanges, too. -/
noncomputable def caseWorld (os : Os) : World :=
  let N := (World.settled Tryd.prog os).heap.size
  let w0 := World.holding Tryd.prog os ⟨#[.cells #[.string ⟨#[105, 110, 118, 97, 108, 105, 100, 32, 115, 121, 110, 116, 97, 120]⟩] 220, .cells #[.string ⟨#[118, 97, 108, 117, 101, 32, 111, 117, 116, 32, 111, 102, 32, 114, 97, 110, 103, 101]⟩] 220, .cells Lib.caseCells5 212], #[], []⟩
  let h1 := putCells (putCells w0.heap 5 #[.iface 218 (.pointer (some ⟨N, 0, none⟩))]) 6 #[.iface 218 (.pointer (some ⟨N + 1, 0, none⟩))]
  let h2 := putCells h1 3 (Lib.firstTab.map fun z => Value.int .u8 z).toArray
  let h3 := putCells h2 4 #[.int .u8 128, .int .u8 191, .int .u8 160, .int .u8 191, .int .u8 128, .int .u8 159, .int .u8 144, .int .u8 191, .int .u8 128, .int .u8 143, .int .u8 0, .int .u8 0, .int .u8 0, .int .u8 0, .int .u8 0, .int .u8 0, .int .u8 0, .int .u8 0, .int .u8 0, .int .u8 0, .int .u8 0, .int .u8 0, .int .u8 0, .int .u8 0, .int .u8 0, .int .u8 0, .int .u8 0, .int .u8 0, .int .u8 0, .int .u8 0, .int .u8 0, .int .u8 0]
  let h4 := putCells h3 7 #[.int .u64 1, .int .u64 10, .int .u64 100, .int .u64 1000, .int .u64 10000, .int .u64 100000, .int .u64 1000000, .int .u64 10000000, .int .u64 100000000, .int .u64 1000000000, .int .u64 10000000000, .int .u64 100000000000, .int .u64 1000000000000, .int .u64 10000000000000, .int .u64 100000000000000, .int .u64 1000000000000000, .int .u64 10000000000000000, .int .u64 100000000000000000, .int .u64 1000000000000000000, .int .u64 10000000000000000000]
  let h5 := putCells h4 8 #[.int .u8 0, .int .u8 1, .int .u8 28, .int .u8 2, .int .u8 29, .int .u8 14, .int .u8 24, .int .u8 3, .int .u8 30, .int .u8 22, .int .u8 20, .int .u8 15, .int .u8 25, .int .u8 17, .int .u8 4, .int .u8 8, .int .u8 31, .int .u8 27, .int .u8 13, .int .u8 23, .int .u8 21, .int .u8 19, .int .u8 16, .int .u8 7, .int .u8 26, .int .u8 12, .int .u8 18, .int .u8 6, .int .u8 11, .int .u8 5, .int .u8 10, .int .u8 9]
  let h6 := putCells h5 9 #[.int .u8 0, .int .u8 1, .int .u8 56, .int .u8 2, .int .u8 57, .int .u8 49, .int .u8 28, .int .u8 3, .int .u8 61, .int .u8 58, .int .u8 42, .int .u8 50, .int .u8 38, .int .u8 29, .int .u8 17, .int .u8 4, .int .u8 62, .int .u8 47, .int .u8 59, .int .u8 36, .int .u8 45, .int .u8 43, .int .u8 51, .int .u8 22, .int .u8 53, .int .u8 39, .int .u8 33, .int .u8 30, .int .u8 24, .int .u8 18, .int .u8 12, .int .u8 5, .int .u8 63, .int .u8 55, .int .u8 48, .int .u8 27, .int .u8 60, .int .u8 41, .int .u8 37, .int .u8 16, .int .u8 46, .int .u8 35, .int .u8 44, .int .u8 21, .int .u8 52, .int .u8 32, .int .u8 23, .int .u8 11, .int .u8 54, .int .u8 26, .int .u8 40, .int .u8 15, .int .u8 34, .int .u8 20, .int .u8 31, .int .u8 10, .int .u8 25, .int .u8 14, .int .u8 19, .int .u8 9, .int .u8 13, .int .u8 8, .int .u8 7, .int .u8 6]
  let h7 := putCells h6 0 #[.int .i64 11, .int .i64 13, .int .i64 17, .int .i64 25, .int .i64 41, .int .i64 73, .int .i64 137, .int .i64 265]
  let h8 := putCells h7 1 #[.slice (some ⟨N + 2, 0, none⟩) 336 336]
  { w0 with heap := h8 }


theorem case_data : (Rows.laid_unicode_CaseRanges : DataW Unit) = Lib.caseData := by kernel_rfl
theorem laidVars_split {P : Program} {w : World} : ∀ {l l' : List (String × DataW Unit)} {ps : List MemPlace}, DataW.LaidVars P w (l ++ l') ps → ∃ p q, ps = p ++ q ∧ DataW.LaidVars P w l p ∧ DataW.LaidVars P w l' q
  | [], _, ps, h => ⟨[], ps, rfl, rfl, h⟩
  | (n, d) :: r, l', ps, h => by
    obtain ⟨g, t, cs, fuel, p, q, h1, h2, h3, h4, h5, rfl⟩ := h
    obtain ⟨p', q', rfl, h6, h7⟩ := laidVars_split h5
    exact ⟨MemPlace.row ⟨g, 0, none⟩ cs.size ++ p ++ p', q', by simp [List.append_assoc], ⟨g, t, cs, fuel, p, p', h1, h2, h3, h4, h6, rfl⟩, h7⟩
/-- The order of a list is of no account. -/
theorem laidMet_swap {P : Program} {w : World} {l1 l2 l3 : List (String × DataW Unit)} (h : laidMet P (l1 ++ l2 ++ l3) w) : laidMet P (l1 ++ (l3 ++ l2)) w := by
  obtain ⟨ps, hv, hn, hb⟩ := h
  obtain ⟨pq, r, rfl, h12, h3⟩ := laidVars_split hv
  obtain ⟨p, q, rfl, h1, h2⟩ := laidVars_split h12
  have hp : (p ++ q ++ r).Perm (p ++ (r ++ q)) := by
    rw [List.append_assoc]
    exact List.Perm.append_left p List.perm_append_comm
  exact ⟨p ++ (r ++ q), LaidVars_append h1 (LaidVars_append h3 h2), hp.nodup_iff.1 hn, fun b off hm => hb b off (hp.mem_iff.2 hm)⟩
theorem laid_case (os : Os) (args : Array Value) : laidMet Tryd.prog Rows.refTextBackRow.laid ((caseWorld os).forCall (fun _ _ => 0) ⟨#[], args, []⟩).memory := by
  have h := laidMet_with_case (ρ := Tryd.lays159_ren) (P := Tryd.prog) (w := ((caseWorld os).forCall (fun _ _ => 0) ⟨#[], args, []⟩).memory) { Tryd.lays159 with } Tryd.lays159.t206 ⟨by kernel_rfl, by kernel_rfl, by kernel_rfl, by kernel_rfl, by kernel_rfl, by kernel_rfl⟩
    (l := [("math/bits.deBruijn32tab", Rows.laid_math_bits_deBruijn32tab), ("math/bits.deBruijn64tab", Rows.laid_math_bits_deBruijn64tab), ("internal/strconv.uint64pow10", Rows.laid_internal_strconv_uint64pow10), ("unicode/utf8.acceptRanges", Rows.laid_unicode_utf8_acceptRanges), ("strconv.ErrRange", Rows.laid_strconv_ErrRange), ("strconv.ErrSyntax", Rows.laid_strconv_ErrSyntax)] ++ [("unicode/utf8.first", Rows.laid_unicode_utf8_first)])
    10 (by kernel_rfl) (by kernel_rfl) (by kernel_rfl) ((World.settled Tryd.prog default).heap.size + 2) 212 (of_decide_eq_true (by kernel_rfl)) (by kernel_rfl) (by kernel_rfl) (by kernel_rfl)
  rw [← case_data] at h
  exact laidMet_swap h
end Go.Proofs.YtefhcgnamfnkbaaDoor
