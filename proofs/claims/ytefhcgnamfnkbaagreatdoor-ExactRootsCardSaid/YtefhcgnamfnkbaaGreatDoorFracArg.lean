/- An api.Frac handed by value: opened into its two strings, and shut again. -/
import Derived.Lib.SmallJoins
import Derived.ChangeMaps5
import Derived.Test.YtefhcgnamfnkbaaGreatDoorStart
namespace Go.Proofs.YtefhcgnamfnkbaaGreatDoor.FracArg
open Go.ChangeShapes Go.WideShapes Go.RowKit Go.Deep Go.WideElems Go.Maps Go.Joins
open Go.ChangeMaps (shut_string)
open Go.Proofs.YtefhcgnamfnkbaaGreatDoor
variable {H : Type} {enc : TypeId × Value → H}
theorem array2 (T : Array Value) (h : T.size = 2) : ∃ v0 v1 : Value, T = #[v0, v1] := by
  cases T with
  | mk l =>
    match l, h with
    | [v0, v1], _ => exact ⟨v0, v1, rfl⟩
theorem size23 : (Tryz.prog.info? 23).map (·.size) = some 2 := by kernel_rfl
theorem cells23 : Tryz.prog.cellsOf 23 = 2 := by unfold Program.cellsOf; rw [size23]; rfl
theorem cells9 : Tryz.prog.cellsOf 9 = 1 := by kernel_rfl
set_option maxRecDepth 100000 in
/-- An api.Frac by value, opened: its two strings; the same reading in any world. -/
theorem open_frac {w : World} {base : Nat} {spare : Nat → Bool} {held : Bool} {r : Reach} {b0 : Nat} {v : Value} {d : DataW H} {p : List MemPlace}
    (hv : Value.okWide Tryz.prog w r b0 23 v) (h : DataW.Trod enc Tryz.prog w base spare held 23 v d p) :
    ∃ (s t : ByteArray), v = .agg #[.string s, .string t] ∧ d = .agg [.lit (.string s.data.toList), .lit (.string t.data.toList)] ∧ p = [] ∧ s.size ≤ maxLen ∧ t.size ≤ maxLen := by
  obtain ⟨cs, rfl, hsz⟩ := okWide_struct Tryz.underlying23 hv
  obtain ⟨c0, c1, rfl⟩ := array2 cs (hsz.trans cells23)
  obtain ⟨fuel, hf⟩ := h
  obtain ⟨xs, n, _, hx, hl, hlen, hf⟩ := DataW.trod_struct Tryz.underlying23 hf
  match xs, hlen with
  | [y0, y1], _ =>
    have h0 := hf 0 _ rfl
    have h1 := hf 1 _ rfl
    clear hf hl hv hsz
    obtain ⟨z0, e0, rfl, w0⟩ := DataW.trod_string Tryz.underlying9 h0
    simp [Value.cells, cells9] at e0
    subst e0
    obtain ⟨z1, e1, rfl, w1⟩ := DataW.trod_string Tryz.underlying9 h1
    simp [Value.cells, cells9] at e1
    subst e1
    simp at hx
    exact ⟨_, _, rfl, hx.1, hx.2, w0, w1⟩
set_option maxRecDepth 100000 in
theorem shut_frac {w : World} {base : Nat} {spare : Nat → Bool} {held : Bool} (s t : ByteArray) (w0 : s.size ≤ maxLen) (w1 : t.size ≤ maxLen) :
    DataW.Trod enc Tryz.prog w base spare held 23 (.agg #[.string s, .string t]) (.agg [.lit (.string s.data.toList), .lit (.string t.data.toList)]) [] := by
  obtain ⟨m0, t0⟩ := field_of_Trod (enc := enc) (w := w) (base := base) (spare := spare) (held := held) (shut_string Tryz.underlying9 w0) rfl
  obtain ⟨m1, t1⟩ := field_of_Trod (enc := enc) (w := w) (base := base) (spare := spare) (held := held) (shut_string Tryz.underlying9 w1) rfl
  replace t0 := DataW.trod_le (show m0 ≤ m0 + m1 by omega) t0
  replace t1 := DataW.trod_le (show m1 ≤ m0 + m1 by omega) t1
  generalize m0 + m1 = M at t0 t1
  have ts := trod_struct_mk (n := M) (enc := enc) (w := w) (base := base) (spare := spare) (held := held) (cs := [.string s, .string t]) (xs := [(.lit (.string s.data.toList), []), (.lit (.string t.data.toList), [])]) Tryz.underlying23 (by simp [cells23]) (by simp [cells9, t0, t1])
  exact ⟨_, by simpa [Value.cells] using ts⟩
end Go.Proofs.YtefhcgnamfnkbaaGreatDoor.FracArg
