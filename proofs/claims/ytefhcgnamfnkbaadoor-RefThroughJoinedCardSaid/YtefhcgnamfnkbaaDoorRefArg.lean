/- An api.Ref handed by value: opened into its ten fields, and shut again. -/
import Derived.Lib.SmallJoins
import Derived.ChangeMaps5
import Derived.Test.YtefhcgnamfnkbaaDoorStart
namespace Go.Proofs.YtefhcgnamfnkbaaDoor.RefArg
open Go.ChangeShapes Go.WideShapes Go.RowKit Go.Deep Go.WideElems Go.Maps Go.Joins
open Go.ChangeMaps (shut_string)
open Go.Proofs.YtefhcgnamfnkbaaDoor
variable {H : Type} {enc : TypeId × Value → H}
set_option maxRecDepth 100000 in
theorem array10 (T : Array Value) (h : T.size = 10) : ∃ v0 v1 v2 v3 v4 v5 v6 v7 v8 v9 : Value, T = #[v0, v1, v2, v3, v4, v5, v6, v7, v8, v9] := by
  cases T with
  | mk l =>
    match l, h with
    | [v0, v1, v2, v3, v4, v5, v6, v7, v8, v9], _ => exact ⟨v0, v1, v2, v3, v4, v5, v6, v7, v8, v9, rfl⟩
theorem size44 : (Tryd.prog.info? 44).map (·.size) = some 10 := by kernel_rfl
theorem cells44 : Tryd.prog.cellsOf 44 = 10 := by unfold Program.cellsOf; rw [size44]; rfl
theorem cells9 : Tryd.prog.cellsOf 9 = 1 := by kernel_rfl
theorem cells3 : Tryd.prog.cellsOf 3 = 1 := by kernel_rfl
theorem cells4 : Tryd.prog.cellsOf 4 = 1 := by kernel_rfl
set_option maxRecDepth 100000 in
/-- AN api.Ref BY VALUE, OPENED: its ten fields; the same reading in any world. -/
theorem open_ref {w : World} {base : Nat} {spare : Nat → Bool} {held : Bool} {r : Reach} {b0 : Nat} {v : Value} {d : DataW H} {p : List MemPlace}
    (hv : Value.okWide Tryd.prog w r b0 44 v) (h : DataW.Trod enc Tryd.prog w base spare held 44 v d p) :
    ∃ (s : ByteArray) (k n c n2 c2 : Int) (a b a2 b2 : Bool), v = .agg #[.string s, .int .i64 k, .int .i64 n, .int .i64 c, .int .i64 n2, .int .i64 c2, .bool a, .bool b, .bool a2, .bool b2] ∧ d = .agg [.lit (.string s.data.toList), .lit (.int .i64 k), .lit (.int .i64 n), .lit (.int .i64 c), .lit (.int .i64 n2), .lit (.int .i64 c2), .lit (.bool a), .lit (.bool b), .lit (.bool a2), .lit (.bool b2)] ∧ p = [] ∧ s.size ≤ maxLen ∧ (Lit.int .i64 k).wf = true ∧ (Lit.int .i64 n).wf = true ∧ (Lit.int .i64 c).wf = true ∧ (Lit.int .i64 n2).wf = true ∧ (Lit.int .i64 c2).wf = true := by
  obtain ⟨cs, rfl, hsz⟩ := okWide_struct Tryd.underlying44 hv
  obtain ⟨c0, c1, c2, c3, c4, c5, c6, c7, c8, c9, rfl⟩ := array10 cs (hsz.trans cells44)
  obtain ⟨fuel, hf⟩ := h
  obtain ⟨xs, n, _, hx, hl, hlen, hf⟩ := DataW.trod_struct Tryd.underlying44 hf
  match xs, hlen with
  | [y0, y1, y2, y3, y4, y5, y6, y7, y8, y9], _ =>
    have h0 := hf 0 _ rfl
    have h1 := hf 1 _ rfl
    have h2 := hf 2 _ rfl
    have h3 := hf 3 _ rfl
    have h4 := hf 4 _ rfl
    have h5 := hf 5 _ rfl
    have h6 := hf 6 _ rfl
    have h7 := hf 7 _ rfl
    have h8 := hf 8 _ rfl
    have h9 := hf 9 _ rfl
    clear hf hl hv hsz
    obtain ⟨z0, e0, rfl, w0⟩ := DataW.trod_string Tryd.underlying9 h0
    simp [Value.cells, cells9] at e0
    subst e0
    obtain ⟨z1, e1, rfl, w1⟩ := DataW.trod_int Tryd.underlying3 h1
    simp [Value.cells, cells3] at e1
    subst e1
    obtain ⟨z2, e2, rfl, w2⟩ := DataW.trod_int Tryd.underlying3 h2
    simp [Value.cells, cells3] at e2
    subst e2
    obtain ⟨z3, e3, rfl, w3⟩ := DataW.trod_int Tryd.underlying3 h3
    simp [Value.cells, cells3] at e3
    subst e3
    obtain ⟨z4, e4, rfl, w4⟩ := DataW.trod_int Tryd.underlying3 h4
    simp [Value.cells, cells3] at e4
    subst e4
    obtain ⟨z5, e5, rfl, w5⟩ := DataW.trod_int Tryd.underlying3 h5
    simp [Value.cells, cells3] at e5
    subst e5
    obtain ⟨z6, e6, rfl⟩ := DataW.trod_bool Tryd.underlying4 h6
    simp [Value.cells, cells4] at e6
    subst e6
    obtain ⟨z7, e7, rfl⟩ := DataW.trod_bool Tryd.underlying4 h7
    simp [Value.cells, cells4] at e7
    subst e7
    obtain ⟨z8, e8, rfl⟩ := DataW.trod_bool Tryd.underlying4 h8
    simp [Value.cells, cells4] at e8
    subst e8
    obtain ⟨z9, e9, rfl⟩ := DataW.trod_bool Tryd.underlying4 h9
    simp [Value.cells, cells4] at e9
    subst e9
    simp at hx
    exact ⟨_, _, _, _, _, _, _, _, _, _, rfl, hx.1, hx.2, w0, w1, w2, w3, w4, w5⟩
set_option maxRecDepth 100000 in
theorem shut_ref {w : World} {base : Nat} {spare : Nat → Bool} {held : Bool} (s : ByteArray) (k n c n2 c2 : Int) (a b a2 b2 : Bool) (w0 : s.size ≤ maxLen) (w1 : (Lit.int .i64 k).wf = true) (w2 : (Lit.int .i64 n).wf = true) (w3 : (Lit.int .i64 c).wf = true) (w4 : (Lit.int .i64 n2).wf = true) (w5 : (Lit.int .i64 c2).wf = true) :
    DataW.Trod enc Tryd.prog w base spare held 44 (.agg #[.string s, .int .i64 k, .int .i64 n, .int .i64 c, .int .i64 n2, .int .i64 c2, .bool a, .bool b, .bool a2, .bool b2]) (.agg [.lit (.string s.data.toList), .lit (.int .i64 k), .lit (.int .i64 n), .lit (.int .i64 c), .lit (.int .i64 n2), .lit (.int .i64 c2), .lit (.bool a), .lit (.bool b), .lit (.bool a2), .lit (.bool b2)]) [] := by
  obtain ⟨m0, t0⟩ := field_of_Trod (enc := enc) (w := w) (base := base) (spare := spare) (held := held) (shut_string Tryd.underlying9 w0) rfl
  obtain ⟨m1, t1⟩ := field_of_Trod (enc := enc) (w := w) (base := base) (spare := spare) (held := held) (shut_int Tryd.underlying3 w1) rfl
  obtain ⟨m2, t2⟩ := field_of_Trod (enc := enc) (w := w) (base := base) (spare := spare) (held := held) (shut_int Tryd.underlying3 w2) rfl
  obtain ⟨m3, t3⟩ := field_of_Trod (enc := enc) (w := w) (base := base) (spare := spare) (held := held) (shut_int Tryd.underlying3 w3) rfl
  obtain ⟨m4, t4⟩ := field_of_Trod (enc := enc) (w := w) (base := base) (spare := spare) (held := held) (shut_int Tryd.underlying3 w4) rfl
  obtain ⟨m5, t5⟩ := field_of_Trod (enc := enc) (w := w) (base := base) (spare := spare) (held := held) (shut_int Tryd.underlying3 w5) rfl
  obtain ⟨m6, t6⟩ := field_of_Trod (enc := enc) (w := w) (base := base) (spare := spare) (held := held) (shut_bool Tryd.underlying4 a) rfl
  obtain ⟨m7, t7⟩ := field_of_Trod (enc := enc) (w := w) (base := base) (spare := spare) (held := held) (shut_bool Tryd.underlying4 b) rfl
  obtain ⟨m8, t8⟩ := field_of_Trod (enc := enc) (w := w) (base := base) (spare := spare) (held := held) (shut_bool Tryd.underlying4 a2) rfl
  obtain ⟨m9, t9⟩ := field_of_Trod (enc := enc) (w := w) (base := base) (spare := spare) (held := held) (shut_bool Tryd.underlying4 b2) rfl
  replace t0 := DataW.trod_le (show m0 ≤ m0 + m1 + m2 + m3 + m4 + m5 + m6 + m7 + m8 + m9 by omega) t0
  replace t1 := DataW.trod_le (show m1 ≤ m0 + m1 + m2 + m3 + m4 + m5 + m6 + m7 + m8 + m9 by omega) t1
  replace t2 := DataW.trod_le (show m2 ≤ m0 + m1 + m2 + m3 + m4 + m5 + m6 + m7 + m8 + m9 by omega) t2
  replace t3 := DataW.trod_le (show m3 ≤ m0 + m1 + m2 + m3 + m4 + m5 + m6 + m7 + m8 + m9 by omega) t3
  replace t4 := DataW.trod_le (show m4 ≤ m0 + m1 + m2 + m3 + m4 + m5 + m6 + m7 + m8 + m9 by omega) t4
  replace t5 := DataW.trod_le (show m5 ≤ m0 + m1 + m2 + m3 + m4 + m5 + m6 + m7 + m8 + m9 by omega) t5
  replace t6 := DataW.trod_le (show m6 ≤ m0 + m1 + m2 + m3 + m4 + m5 + m6 + m7 + m8 + m9 by omega) t6
  replace t7 := DataW.trod_le (show m7 ≤ m0 + m1 + m2 + m3 + m4 + m5 + m6 + m7 + m8 + m9 by omega) t7
  replace t8 := DataW.trod_le (show m8 ≤ m0 + m1 + m2 + m3 + m4 + m5 + m6 + m7 + m8 + m9 by omega) t8
  replace t9 := DataW.trod_le (show m9 ≤ m0 + m1 + m2 + m3 + m4 + m5 + m6 + m7 + m8 + m9 by omega) t9
  generalize m0 + m1 + m2 + m3 + m4 + m5 + m6 + m7 + m8 + m9 = M at t0 t1 t2 t3 t4 t5 t6 t7 t8 t9
  have ts := trod_struct_mk (n := M) (enc := enc) (w := w) (base := base) (spare := spare) (held := held) (cs := [.string s, .int .i64 k, .int .i64 n, .int .i64 c, .int .i64 n2, .int .i64 c2, .bool a, .bool b, .bool a2, .bool b2]) (xs := [(.lit (.string s.data.toList), []), (.lit (.int .i64 k), []), (.lit (.int .i64 n), []), (.lit (.int .i64 c), []), (.lit (.int .i64 n2), []), (.lit (.int .i64 c2), []), (.lit (.bool a), []), (.lit (.bool b), []), (.lit (.bool a2), []), (.lit (.bool b2), [])]) Tryd.underlying44 (by simp [cells44]) (by simp [cells9, cells3, cells4, t0, t1, t2, t3, t4, t5, t6, t7, t8, t9])
  exact ⟨_, by simpa [Value.cells] using ts⟩
end Go.Proofs.YtefhcgnamfnkbaaDoor.RefArg
