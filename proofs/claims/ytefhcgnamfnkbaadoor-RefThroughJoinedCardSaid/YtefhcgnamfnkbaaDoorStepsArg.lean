/- A slice of steps handed in: opened. -/
import Derived.Deep.SlicePairs
import Derived.SizedLaws
import Derived.Test.YtefhcgnamfnkbaaDoorRefArg
import Derived.Test.YtefhcgnamfnkbaaDoorWr
namespace Go.Proofs.YtefhcgnamfnkbaaDoor.StepsArg
open Go.ChangeShapes Go.WideShapes Go.RowKit Go.Deep
open Go.Proofs.YtefhcgnamfnkbaaDoor Go.Proofs.YtefhcgnamfnkbaaDoor.Pr Go.Proofs.YtefhcgnamfnkbaaDoorW.PrintWords
variable {H : Type} {enc : TypeId × Value → H}
def numOf : Value → Int
  | .int _ k => k
  | _ => 0
theorem cells127 : Tryd.prog.cellsOf 127 = 2 := by kernel_rfl
set_option maxRecDepth 100000 in
theorem open_steps {W : World} {r : Reach} {b0 : Nat} {v : Value} {d : DataW H} {p : List MemPlace} (hv : Value.okWide Tryd.prog W r b0 52 v) (h : DataW.Trod enc Tryd.prog W 0 (fun _ => true) true 52 v d p) :
    ∃ A c l, v = .slice A l.length c ∧ St W A c l ∧ (l = [] ∨ ∃ el sp, d = .slice el sp ∧ el.length = l.length) := by
  obtain ⟨A, len, cap, rfl⟩ := okWide_slice Tryd.underlying52 hv
  obtain ⟨fuel, hf⟩ := h
  have hf' : DataW.trod enc Tryd.prog W 0 (fun _ => true) true fuel 52 [.slice A len cap] = some (d, p) := by simpa [Value.cells] using hf
  rcases open_slice_pairs Tryd.underlying52 Tryd.underlying127 cells127 rfl rfl RefArg.cells3 RefArg.cells3 hf' with ⟨hcs, hx⟩ | ⟨a, len', cap', m, n, V0, V1, D0, D1, P0, P1, hcs, _, hl, hm, hmeq, hx, hall⟩
  · simp only [List.cons.injEq, Value.slice.injEq, and_true] at hcs
    obtain ⟨rfl, rfl, rfl⟩ := hcs
    exact ⟨none, 0, [], rfl, St.nil W, .inl rfl⟩
  · simp only [List.cons.injEq, Value.slice.injEq, and_true] at hcs
    obtain ⟨rfl, rfl, rfl⟩ := hcs
    simp only [if_true] at hmeq
    subst hmeq
    have hlen : ((List.range len).map fun i => (⟨numOf (V0 i), numOf (V1 i)⟩ : S127)).length = len := by simp
    refine ⟨some a, m, (List.range len).map fun i => (⟨numOf (V0 i), numOf (V1 i)⟩ : S127), by rw [hlen], ⟨⟨rfl, ?_, fun _ => ⟨a, rfl, fun j q hj => ?_⟩⟩, by rw [hlen]; exact hl⟩, .inr ⟨_, _, (Prod.mk.inj hx).1, by rw [hlen]; simp⟩⟩
    · rw [hlen]; unfold maxLen at hm; omega
    · have hjl : j < len := by
        have := (List.getElem?_eq_some_iff.1 hj).1
        rw [hlen] at this; exact this
      have e : q = ⟨numOf (V0 j), numOf (V1 j)⟩ := by
        rw [List.getElem?_map, List.getElem?_range hjl] at hj
        exact (Option.some.inj hj).symm
      subst e
      obtain ⟨c0, c1, t0, t1⟩ := hall j (by omega)
      obtain ⟨k0, e0, _, _⟩ := DataW.trod_int Tryd.underlying3 t0
      obtain ⟨k1, e1, _, _⟩ := DataW.trod_int Tryd.underlying3 t1
      simp only [List.cons.injEq, and_true] at e0 e1
      rw [e0] at c0
      rw [e1] at c1
      refine ⟨[.int .i64 k0, .int .i64 k1], rfl, ?_, fun i u hu => ?_⟩
      · rw [e0, e1]; exact k127_mk W ⟨k0, k1⟩
      · match i, hu with
        | 0, hu =>
          obtain rfl : Value.int .i64 k0 = u := Option.some.inj hu
          exact c0
        | 1, hu =>
          obtain rfl : Value.int .i64 k1 = u := Option.some.inj hu
          exact c1
end Go.Proofs.YtefhcgnamfnkbaaDoor.StepsArg
