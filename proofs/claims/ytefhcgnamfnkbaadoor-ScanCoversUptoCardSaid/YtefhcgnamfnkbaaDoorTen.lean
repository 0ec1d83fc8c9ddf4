/- Ten stores into a reference's memory. -/
import Derived.Test.YtefhcgnamfnkbaaDoorPrx0
namespace Go.Proofs.YtefhcgnamfnkbaaDoor.Pr
open Go.RowKit Go.Proofs.YtefhcgnamfnkbaaDoorW.PrintWords Go.Proofs.YtefhcgnamfnkbaaDoorW.PrintLast Go.Proofs.YtefhcgnamfnkbaaDoorW.PrintMore
theorem store10 {w w1 : World} {b : Nat} {x0 x1 x2 x3 x4 x5 x6 x7 x8 x9 : Value} (hZ : w1.heap[b]? = some (.cells #[x0, x1, x2, x3, x4, x5, x6, x7, x8, x9] 44 (0, 0))) (hW : Below w.heap.size w w1) (hg : w.heap.size ≤ b) (v0 v1 v2 v3 v4 v5 v6 v7 v8 v9 : Value) :
    ((((((((((w1.setCell ⟨b, 0, none⟩ v0).setCell ⟨b, 1, none⟩ v1).setCell ⟨b, 2, none⟩ v2).setCell ⟨b, 3, none⟩ v3).setCell ⟨b, 4, none⟩ v4).setCell ⟨b, 5, none⟩ v5).setCell ⟨b, 6, none⟩ v6).setCell ⟨b, 7, none⟩ v7).setCell ⟨b, 8, none⟩ v8).setCell ⟨b, 9, none⟩ v9).heap[b]? = some (.cells #[v0, v1, v2, v3, v4, v5, v6, v7, v8, v9] 44 (0, 0)) ∧
    Below w.heap.size w ((((((((((w1.setCell ⟨b, 0, none⟩ v0).setCell ⟨b, 1, none⟩ v1).setCell ⟨b, 2, none⟩ v2).setCell ⟨b, 3, none⟩ v3).setCell ⟨b, 4, none⟩ v4).setCell ⟨b, 5, none⟩ v5).setCell ⟨b, 6, none⟩ v6).setCell ⟨b, 7, none⟩ v7).setCell ⟨b, 8, none⟩ v8).setCell ⟨b, 9, none⟩ v9) := by
  constructor
  · replace hZ := blk_put (cs' := #[v0, x1, x2, x3, x4, x5, x6, x7, x8, x9]) hZ 0 v0 rfl
    replace hZ := blk_put (cs' := #[v0, v1, x2, x3, x4, x5, x6, x7, x8, x9]) hZ 1 v1 rfl
    replace hZ := blk_put (cs' := #[v0, v1, v2, x3, x4, x5, x6, x7, x8, x9]) hZ 2 v2 rfl
    replace hZ := blk_put (cs' := #[v0, v1, v2, v3, x4, x5, x6, x7, x8, x9]) hZ 3 v3 rfl
    replace hZ := blk_put (cs' := #[v0, v1, v2, v3, v4, x5, x6, x7, x8, x9]) hZ 4 v4 rfl
    replace hZ := blk_put (cs' := #[v0, v1, v2, v3, v4, v5, x6, x7, x8, x9]) hZ 5 v5 rfl
    replace hZ := blk_put (cs' := #[v0, v1, v2, v3, v4, v5, v6, x7, x8, x9]) hZ 6 v6 rfl
    replace hZ := blk_put (cs' := #[v0, v1, v2, v3, v4, v5, v6, v7, x8, x9]) hZ 7 v7 rfl
    replace hZ := blk_put (cs' := #[v0, v1, v2, v3, v4, v5, v6, v7, v8, x9]) hZ 8 v8 rfl
    exact blk_put (cs' := #[v0, v1, v2, v3, v4, v5, v6, v7, v8, v9]) hZ 9 v9 rfl
  · replace hW := below_set (j := 0) (v := v0) hW hg
    replace hW := below_set (j := 1) (v := v1) hW hg
    replace hW := below_set (j := 2) (v := v2) hW hg
    replace hW := below_set (j := 3) (v := v3) hW hg
    replace hW := below_set (j := 4) (v := v4) hW hg
    replace hW := below_set (j := 5) (v := v5) hW hg
    replace hW := below_set (j := 6) (v := v6) hW hg
    replace hW := below_set (j := 7) (v := v7) hW hg
    replace hW := below_set (j := 8) (v := v8) hW hg
    exact below_set (j := 9) (v := v9) hW hg
theorem far10 {w1 : World} {b b' : Nat} {cs : Array Value} {t : TypeId} (h : w1.heap[b']? = some (.cells cs t (0, 0))) (hn : b' ≠ b) (v0 v1 v2 v3 v4 v5 v6 v7 v8 v9 : Value) :
    ((((((((((w1.setCell ⟨b, 0, none⟩ v0).setCell ⟨b, 1, none⟩ v1).setCell ⟨b, 2, none⟩ v2).setCell ⟨b, 3, none⟩ v3).setCell ⟨b, 4, none⟩ v4).setCell ⟨b, 5, none⟩ v5).setCell ⟨b, 6, none⟩ v6).setCell ⟨b, 7, none⟩ v7).setCell ⟨b, 8, none⟩ v8).setCell ⟨b, 9, none⟩ v9).heap[b']? = some (.cells cs t (0, 0)) :=
  blk_far (p := ⟨b, 9, none⟩) (blk_far (p := ⟨b, 8, none⟩) (blk_far (p := ⟨b, 7, none⟩) (blk_far (p := ⟨b, 6, none⟩) (blk_far (p := ⟨b, 5, none⟩) (blk_far (p := ⟨b, 4, none⟩) (blk_far (p := ⟨b, 3, none⟩) (blk_far (p := ⟨b, 2, none⟩) (blk_far (p := ⟨b, 1, none⟩) (blk_far (p := ⟨b, 0, none⟩) h hn v0) hn v1) hn v2) hn v3) hn v4) hn v5) hn v6) hn v7) hn v8) hn v9
end Go.Proofs.YtefhcgnamfnkbaaDoor.Pr
