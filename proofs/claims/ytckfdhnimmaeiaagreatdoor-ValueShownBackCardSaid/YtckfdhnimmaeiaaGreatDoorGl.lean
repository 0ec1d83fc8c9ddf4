/- What the package-level variables hold, as one premise of each contract, and that it stays so. -/
import Derived.Test.YtckfdhnimmaeiaaGreatDoorProg
import Derived.Test.YtckfdhnimmaeiaaGreatDoorV
import Derived.WalkSmall
import Derived.Lib.LaidTab
import Derived.Shelf.Strconv.Itoa3
namespace Go.Proofs.YtckfdhnimmaeiaaGreatDoor
open Go.RowKit Go.Sort Go.Proofs.YtckfdhnimmaeiaaGreatDoorW.PrintWords
/-- The variables of the library that the walks read. -/
structure Gl (w : World) : Prop where
  big : 9 ≤ w.heap.size
  most : ∃ m, w.cell? ⟨3, 0, none⟩ = some (.int .i64 m)
  pow : Lib.TabIs Tryz.prog w "internal/strconv.uint64pow10" .u64 Lib.pow10Tab
theorem gPow : Tryz.prog.globalNamed "internal/strconv.uint64pow10" = some 6 := by kernel_rfl
theorem gl_below {w w' : World} (h : Gl w) (b : Below w.heap.size w w') : Gl w' := by
  obtain ⟨m, hm⟩ := h.most
  have hb := h.big
  refine ⟨Nat.le_trans h.big b.size, ⟨m, ?_⟩, var?_below b gPow (by omega) h.pow⟩
  rw [b.cell (p := ⟨3, 0, none⟩) (by show 3 < w.heap.size; omega)]
  exact hm
theorem gl_drewN {w : World} (h : Gl w) (n : Nat) : Gl (w.drewN n) := gl_below h ⟨rfl, rfl, rfl, Nat.le_refl _, fun _ _ => rfl⟩
theorem gl_drew {w : World} (h : Gl w) : Gl w.drew := gl_below h ⟨rfl, rfl, rfl, Nat.le_refl _, fun _ _ => rfl⟩
/-! Short names for the longest texts. -/
theorem bsm {α β : Type} {x : Option α} {f : α → Option β} {b : β} (h : x.bind f = some b) : ∃ a, x = some a ∧ f a = some b := Option.bind_eq_some_iff.mp h
theorem bA {w W : World} (h : Below w.heap.size w W) (o : Obj) : Below w.heap.size w (W.alloc o) := below_alloc h o
theorem bN {B : Nat} {w W : World} (h : Below B w W) (n : Nat) : Below B w (W.drewN n) := pw_below_drewN h n
theorem bD {base : Nat} {w W : World} (h : Below base w W) : Below base w W.drew := h.drew
theorem kA {w : World} {g : Nat} {o : Obj} (h : w.heap[g]? = some o) (o' : Obj) : (w.alloc o').heap[g]? = some o := blk_alloc h o'
theorem kD {w : World} {g : Nat} {o : Obj} (h : w.heap[g]? = some o) : w.drew.heap[g]? = some o := h
theorem kN {w : World} {g : Nat} {o : Obj} (h : w.heap[g]? = some o) (n : Nat) : (w.drewN n).heap[g]? = some o := h
theorem isE (l : List UInt8) : (l != []) = !l.isEmpty := by cases l <;> rfl
theorem isE1 {l : List UInt8} (h : l = []) : l.isEmpty = true := by rw [h]; rfl
theorem isE0 {l : List UInt8} (h : ¬ l = []) : l.isEmpty = false := by cases l with | nil => exact absurd rfl h | cons => rfl
theorem below_of_grow (w : World) (k : Nat) (os : Array Obj) : Below w.heap.size w (grow (w.drewN k) os) :=
  ⟨rfl, rfl, rfl, by simp [grow], fun i hi => by
    show (w.heap ++ os)[i]? = _
    rw [Array.getElem?_append_left hi]⟩
end Go.Proofs.YtckfdhnimmaeiaaGreatDoor
