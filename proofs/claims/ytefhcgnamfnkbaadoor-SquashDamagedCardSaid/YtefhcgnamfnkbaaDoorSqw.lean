/- What squash.Pack keeps: the tokens read, the head's bytes, the writer's neighbours. -/
import Derived.Test.YtefhcgnamfnkbaaDoorSqk
import Derived.Test.YtefhcgnamfnkbaaDoorSql
import Derived.Test.YtefhcgnamfnkbaaDoorSqp
import Derived.Test.YtefhcgnamfnkbaaDoorSqx
namespace Go.Proofs.YtefhcgnamfnkbaaDoor.Pr
open Go.RowKit Go.Proofs.YtefhcgnamfnkbaaDoorW.PrintWords Go.Proofs.YtefhcgnamfnkbaaDoorW.PrintLast Go.Proofs.YtefhcgnamfnkbaaDoorW.PrintMore
set_option linter.unusedVariables false
set_option linter.unusedSimpArgs false
theorem tok_read {w : World} {B L cap : Nat} {A : Option Addr} {ts : List Tk} (h : w.ownsRow B 72 4 (.slice A L cap) L (flat4 ts)) (hg : ∀ t ∈ ts, GoodT t) (hL : 0 < L) : ∃ g cs, A = some ⟨g, 0, none⟩ ∧ B ≤ g ∧ w.heap[g]? = some (.cells cs 72 (0, 0)) ∧ TkR w g L := by
  obtain ⟨g, cap', hv, hc, _⟩ := h.form hL
  simp only [Value.slice.injEq] at hv
  obtain ⟨rfl, _, rfl⟩ := hv
  obtain ⟨cs, hcs⟩ := own_typed h g (by simp [Value.ownBlock])
  have hl : ts.length = L := by have := h.1; rw [flat4_len] at this; omega
  have ea : ∀ j, (⟨g, 0, none⟩ : Addr).add j = ⟨g, j, none⟩ := fun j => by unfold Addr.add; by_cases h0 : j = 0 <;> simp [h0]
  refine ⟨g, cs, rfl, own_base h g (by simp [Value.ownBlock]), hcs, fun i hi => ?_⟩
  obtain ⟨t, ht⟩ : ∃ t, ts[i]? = some t := ⟨_, List.getElem?_eq_getElem (by omega)⟩
  obtain ⟨e0, e1, e2, e3⟩ := flat4_at ts i t ht
  have c0 := h.cells (g := g) rfl _ _ e0
  have c1 := h.cells (g := g) rfl _ _ e1
  have c2 := h.cells (g := g) rfl _ _ e2
  have c3 := h.cells (g := g) rfl _ _ e3
  rw [ea] at c0 c1 c2 c3
  obtain ⟨r0, r1, r2, r3⟩ := hg t (List.mem_of_getElem? ht)
  exact ⟨⟨t.y, t.a, t.x, t.b⟩, c0, c1, c2, c3, r0, r1, r2, r3⟩
theorem head_own {w : World} {h : Nat} {a b c d e : Int} (hb : w.heap[h]? = some (.cells #[.int .u8 a, .int .u8 b, .int .u8 c, .int .u8 d, .int .u8 e] 5 (0, 0))) : w.ownsRow h 5 1 (.slice (some ⟨h, 0, none⟩) 5 5) 5 (ub [a, b, c, d, e]) :=
  ⟨rfl, .inr ⟨h, 5, _, rfl, Nat.le_refl _, hb, by omega, by unfold maxLen; omega, rfl, rfl⟩⟩
theorem Aw.blk {p k : Nat} {w w' : World} {cs : Array Value} {ty : TypeId} {fr : Nat × Nat} (h : Aw p w w') (hk : w.heap[k]? = some (.cells cs ty fr)) (hp : k ≠ p) (ht : k < p ∨ ty ≠ 5) : w'.heap[k]? = some (.cells cs ty fr) := by
  rw [h.block k (blk_lt hk) hp (ht.imp id fun ht cs' fr' e => by rw [hk] at e; simp only [Option.some.injEq, Obj.cells.injEq] at e; exact ht e.2.1)]
  exact hk
theorem Aw.iv {p g N : Nat} {P : Int → Prop} {w w' : World} (h : Aw p w w') (k : Iv w g N P) (hp : g ≠ p) : Iv w' g N P := by
  obtain ⟨cs, h1, h2, h3⟩ := k
  exact ⟨cs, h.blk h1 hp (.inr (by decide)), h2, h3⟩
theorem Aw.below {p : Nat} {w0 w w' : World} (hb : Below w0.heap.size w0 w) (hp : w0.heap.size ≤ p) (h : Aw p w w') : Below w0.heap.size w0 w' :=
  ⟨h.os.trans hb.os, h.tape.trans hb.tape, h.output.trans hb.output, Nat.le_trans hb.size h.size, fun k hk => by
    rw [h.block k (Nat.lt_of_lt_of_le hk hb.size) (by omega) (.inl (by omega)), hb.block k hk]⟩
/-- What stands about Pack's writer at p. -/
structure Pk (w0 w : World) (a b c d : Int) (g L lg q p : Nat) : Prop where
  hd : w.heap[w0.heap.size]? = some (.cells #[.int .u8 a, .int .u8 b, .int .u8 c, .int .u8 d, .int .u8 0] 5 (0, 0))
  tk : ∃ cs, w.heap[g]? = some (.cells cs 72 (0, 0))
  tr : TkR w g L
  ln : Iv w lg 272 (fun v => 0 ≤ v ∧ v ≤ 33554432)
  cd : Iv w q 272 (fun _ => True)
  hp : w0.heap.size < p
  gp : g ≠ p
  lp : lg ≠ p
  qp : q ≠ p
  bw : Below w0.heap.size w0 w
variable {w0 w w' : World} {a b c d : Int} {g L lg q p : Nat}
theorem Pk.up (h : Pk w0 w a b c d g L lg q p) (k : Below w.heap.size w w') : Pk w0 w' a b c d g L lg q p := by
  obtain ⟨cs, hcs⟩ := h.tk
  exact ⟨blk_below h.hd k, ⟨cs, blk_below hcs k⟩, h.tr.below k, h.ln.up k, h.cd.up k, h.hp, h.gp, h.lp, h.qp, below_step h.bw k⟩
theorem Pk.aw (h : Pk w0 w a b c d g L lg q p) (k : Aw p w w') : Pk w0 w' a b c d g L lg q p := by
  obtain ⟨cs, hcs⟩ := h.tk
  have hp := h.hp
  exact ⟨k.blk h.hd (by omega) (.inl h.hp), ⟨cs, k.blk hcs h.gp (.inr (by decide))⟩, h.tr.up (fun i hi e => by subst e; rw [k.blk hcs h.gp (.inr (by decide)), hcs]), k.iv h.ln h.lp, k.iv h.cd h.qp, h.hp, h.gp, h.lp, h.qp, Aw.below h.bw (by omega) k⟩
theorem Pk.tok (h : Pk w0 w a b c d g L lg q p) {x j : Nat} {cs : Array Value} {vq vl v0 : Value} (hx : w.heap[x]? = some (.cells cs 72 (0, 0))) (hxp : x ≠ p) (h0 : cs[0]? = some v0) (cq : w.cell? ⟨q, j, none⟩ = some vq) (cl : w.cell? ⟨lg, j, none⟩ = some vl) (w' : World) (k : Aw p w w') :
    w'.cell? ⟨q, j, none⟩ = some vq ∧ w'.cell? ⟨lg, j, none⟩ = some vl ∧ w'.cell? ⟨x, 0, none⟩ = some v0 := by
  obtain ⟨cq', hq, _⟩ := h.cd
  obtain ⟨cl', hl, _⟩ := h.ln
  have e1 : w'.heap[q]? = w.heap[q]? := (k.blk hq h.qp (.inr (by decide))).trans hq.symm
  have e2 : w'.heap[lg]? = w.heap[lg]? := (k.blk hl h.lp (.inr (by decide))).trans hl.symm
  exact ⟨(World.cell?_of_block (a := ⟨q, j, none⟩) e1).trans cq, (World.cell?_of_block (a := ⟨lg, j, none⟩) e2).trans cl, (blk_cell (k.blk hx hxp (.inr (by decide))) 0).trans h0⟩
theorem pw_new (w : World) : Pw (w.alloc (.cells #[.slice none 0 0, .int .i64 0] 69)) w.heap.size none 0 0 0 := ⟨blk_new w _, ⟨[], World.ownsRow_nil _ _ _ _⟩, by omega, by omega, fun h => by omega⟩
end Go.Proofs.YtefhcgnamfnkbaaDoor.Pr
