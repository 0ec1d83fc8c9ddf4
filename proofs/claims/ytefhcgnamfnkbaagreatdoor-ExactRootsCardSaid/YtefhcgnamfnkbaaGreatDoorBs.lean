/- Boxes of fractions, told all at once. -/
import Derived.Test.YtefhcgnamfnkbaaGreatDoorDs
namespace Go.Proofs.YtefhcgnamfnkbaaGreatDoor.Pr
open Go.RowKit Go.Proofs.YtefhcgnamfnkbaaGreatDoorW.PrintWords Go.Proofs.YtefhcgnamfnkbaaGreatDoorW.PrintLast Go.Proofs.YtefhcgnamfnkbaaGreatDoorW.PrintMore

/-- Each box of the list holds its fraction. -/
def Bs (W : World) (l : List (Nat × ByteArray × ByteArray)) : Prop := ∀ (i g : Nat) (s t : ByteArray), l[i]? = some (g, s, t) → W.heap[g]? = some (.cells #[.string s, .string t] 23 (0, 0))
variable {W W' : World} {l : List (Nat × ByteArray × ByteArray)} {g : Nat} {s t : ByteArray}
theorem Bs.empty (W : World) : Bs W [] := fun _ _ _ _ h => by simp at h
theorem Bs.up (h : Bs W l) (k : Below W.heap.size W W') : Bs W' l := fun i g s t e => blk_below (h i g s t e) k
theorem Bs.c0 (h : Bs W l) (i : Nat) (e : l[i]? = some (g, s, t)) : W.cell? ⟨g, 0, none⟩ = some (.string s) := (blk_cell (h i g s t e) 0).trans rfl
theorem Bs.c1 (h : Bs W l) (i : Nat) (e : l[i]? = some (g, s, t)) : W.cell? ⟨g, 1, none⟩ = some (.string t) := (blk_cell (h i g s t e) 1).trans rfl
theorem Bs.z (h : Bs W l) (i : Nat) (e : l[i]? = some (g, s, t)) : g < W.heap.size := blk_lt (h i g s t e)
theorem Bs.lt (h : Bs W l) (x : Nat × ByteArray × ByteArray) (hx : x ∈ l) : x.1 < W.heap.size := by
  obtain ⟨i, hi⟩ := List.getElem?_of_mem hx
  exact blk_lt (h i x.1 x.2.1 x.2.2 hi)
theorem Bs.snoc (h : Bs W l) (hg : W.heap[g]? = some (.cells #[.string s, .string t] 23 (0, 0))) : Bs W (l ++ [(g, s, t)]) := by
  intro i g' s' t' e
  rw [List.getElem?_append] at e
  split at e
  · exact h i g' s' t' e
  · rename_i hi
    rcases Nat.eq_zero_or_pos (i - l.length) with h0 | h0
    · rw [h0] at e
      simp only [List.getElem?_cons_zero, Option.some.injEq, Prod.mk.injEq] at e
      obtain ⟨rfl, rfl, rfl⟩ := e
      exact hg
    · rw [List.getElem?_eq_none (by simp; omega)] at e
      cases e
theorem Bs.add (h : Bs W l) (s t : ByteArray) : Bs (W.alloc (.cells #[.string s, .string t] 23)) (l ++ [(W.heap.size, s, t)]) := (h.up climb).snoc (blk_new W _)
/-- A box that was made before is filled. -/
theorem Bs.fill {W0 : World} (h0 : Bs W0 l) (hg : W0.heap.size ≤ g) (h : Bs W l) {u v : ByteArray} (hk : W.heap[g]? = some (.cells #[.string u, .string v] 23 (0, 0))) (s t : ByteArray) :
    Bs ((W.setCell ⟨g, 0, none⟩ (.string s)).setCell ⟨g, 1, none⟩ (.string t)) (l ++ [(g, s, t)]) := by
  have hne : ∀ x ∈ l, x.1 ≠ g := fun x hx => by have := h0.lt x hx; omega
  refine Bs.snoc (fun i g' s' t' e => ?_) (blk_set (blk_set hk 0 (.string s)) 1 (.string t))
  have hx := hne _ (List.mem_of_getElem? e)
  exact blk_far (blk_far (h i g' s' t' e) (p := ⟨g, 0, none⟩) hx _) (p := ⟨g, 1, none⟩) hx _
end Go.Proofs.YtefhcgnamfnkbaaGreatDoor.Pr
