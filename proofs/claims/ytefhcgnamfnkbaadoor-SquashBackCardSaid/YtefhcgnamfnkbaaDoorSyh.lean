/- What squash.Pack keeps: the tokens read, the head's bytes, the writer's neighbours. squash.Pack, exactly: its words. squash.Pack, walked exactly. -/
import Derived.Test.YtefhcgnamfnkbaaDoorSqk
import Derived.Test.YtefhcgnamfnkbaaDoorSql
import Derived.Test.YtefhcgnamfnkbaaDoorSqp
import Derived.Test.YtefhcgnamfnkbaaDoorSqx
import Derived.Test.YtefhcgnamfnkbaaDoorSyf
import Derived.Test.YtefhcgnamfnkbaaDoorSbo
import Derived.Test.YtefhcgnamfnkbaaDoorSyd
import Derived.Test.YtefhcgnamfnkbaaDoorSbw
namespace Go.Proofs.YtefhcgnamfnkbaaDoor.Pr
open Go.RowKit Go.Proofs.YtefhcgnamfnkbaaDoorW.PrintWords Go.Proofs.YtefhcgnamfnkbaaDoorW.PrintLast Go.Proofs.YtefhcgnamfnkbaaDoorW.PrintMore
set_option linter.unusedVariables false
set_option linter.unusedSimpArgs false
theorem tok_read {w : World} {B L cap : Nat} {A : Option Addr} {ts : List Tk} (h : w.ownsRow B 72 4 (.slice A L cap) L (flat4 ts)) (hg : ∀ t ∈ ts, GoodT t) (hL : 0 < L) : ∃ g cs, A = some ⟨g, 0, none⟩ ∧ B ≤ g ∧ w.heap[g]? = some (.cells cs 72 (0, 0)) ∧ TkR w g L := by
  obtain ⟨g, cap', hv, hc, _⟩ := h.form hL
  simp only [Value.slice.injEq] at hv
  obtain ⟨rfl, _, rfl⟩ := hv
  obtain ⟨cs, hcs⟩ := own_typed h g (by simp [Value.ownBlock])
  have hl : ts.length = L := by have := h.1; rw [flat4_len] at this; omega
  have ea : ∀ j, (⟨g, 0, none⟩ : Addr).add j = ⟨g, j, none⟩ := fun j => by unfold Addr.add; by_cases h0 : j = 0 <;> simp [h0]
  refine ⟨g, cs, rfl, own_base h g (by simp [Value.ownBlock]), hcs, fun i hi => ?_⟩
  obtain ⟨t, ht⟩ : ∃ t, ts[i]? = some t := ⟨_, List.getElem?_eq_getElem (by omega)⟩
  obtain ⟨e0, e1, e2, e3⟩ := flat4_at ts i t ht
  have c0 := h.cells (g := g) rfl _ _ e0
  have c1 := h.cells (g := g) rfl _ _ e1
  have c2 := h.cells (g := g) rfl _ _ e2
  have c3 := h.cells (g := g) rfl _ _ e3
  rw [ea] at c0 c1 c2 c3
  obtain ⟨r0, r1, r2, r3⟩ := hg t (List.mem_of_getElem? ht)
  exact ⟨⟨t.y, t.a, t.x, t.b⟩, c0, c1, c2, c3, r0, r1, r2, r3⟩
theorem head_own {w : World} {h : Nat} {a b c d e : Int} (hb : w.heap[h]? = some (.cells #[.int .u8 a, .int .u8 b, .int .u8 c, .int .u8 d, .int .u8 e] 5 (0, 0))) : w.ownsRow h 5 1 (.slice (some ⟨h, 0, none⟩) 5 5) 5 (ub [a, b, c, d, e]) :=
  ⟨rfl, .inr ⟨h, 5, _, rfl, Nat.le_refl _, hb, by omega, by unfold maxLen; omega, rfl, rfl⟩⟩
theorem Aw.blk {p k : Nat} {w w' : World} {cs : Array Value} {ty : TypeId} {fr : Nat × Nat} (h : Aw p w w') (hk : w.heap[k]? = some (.cells cs ty fr)) (hp : k ≠ p) (ht : k < p ∨ ty ≠ 5) : w'.heap[k]? = some (.cells cs ty fr) := by
  rw [h.block k (blk_lt hk) hp (ht.imp id fun ht cs' fr' e => by rw [hk] at e; simp only [Option.some.injEq, Obj.cells.injEq] at e; exact ht e.2.1)]
  exact hk
theorem Aw.iv {p g N : Nat} {P : Int → Prop} {w w' : World} (h : Aw p w w') (k : Iv w g N P) (hp : g ≠ p) : Iv w' g N P := by
  obtain ⟨cs, h1, h2, h3⟩ := k
  exact ⟨cs, h.blk h1 hp (.inr (by decide)), h2, h3⟩
theorem Aw.below {p : Nat} {w0 w w' : World} (hb : Below w0.heap.size w0 w) (hp : w0.heap.size ≤ p) (h : Aw p w w') : Below w0.heap.size w0 w' :=
  ⟨h.os.trans hb.os, h.tape.trans hb.tape, h.output.trans hb.output, Nat.le_trans hb.size h.size, fun k hk => by
    rw [h.block k (Nat.lt_of_lt_of_le hk hb.size) (by omega) (.inl (by omega)), hb.block k hk]⟩
/-- What stands about Pack's writer at p. -/
structure Pk (w0 w : World) (a b c d : Int) (g L lg q p : Nat) : Prop where
  hd : w.heap[w0.heap.size]? = some (.cells #[.int .u8 a, .int .u8 b, .int .u8 c, .int .u8 d, .int .u8 0] 5 (0, 0))
  tk : ∃ cs, w.heap[g]? = some (.cells cs 72 (0, 0))
  tr : TkR w g L
  ln : Iv w lg 272 (fun v => 0 ≤ v ∧ v ≤ 33554432)
  cd : Iv w q 272 (fun _ => True)
  hp : w0.heap.size < p
  gp : g ≠ p
  lp : lg ≠ p
  qp : q ≠ p
  bw : Below w0.heap.size w0 w
variable {w0 w w' : World} {a b c d : Int} {g L lg q p : Nat}
theorem Pk.up (h : Pk w0 w a b c d g L lg q p) (k : Below w.heap.size w w') : Pk w0 w' a b c d g L lg q p := by
  obtain ⟨cs, hcs⟩ := h.tk
  exact ⟨blk_below h.hd k, ⟨cs, blk_below hcs k⟩, h.tr.below k, h.ln.up k, h.cd.up k, h.hp, h.gp, h.lp, h.qp, below_step h.bw k⟩
theorem Pk.aw (h : Pk w0 w a b c d g L lg q p) (k : Aw p w w') : Pk w0 w' a b c d g L lg q p := by
  obtain ⟨cs, hcs⟩ := h.tk
  have hp := h.hp
  exact ⟨k.blk h.hd (by omega) (.inl h.hp), ⟨cs, k.blk hcs h.gp (.inr (by decide))⟩, h.tr.up (fun i hi e => by subst e; rw [k.blk hcs h.gp (.inr (by decide)), hcs]), k.iv h.ln h.lp, k.iv h.cd h.qp, h.hp, h.gp, h.lp, h.qp, Aw.below h.bw (by omega) k⟩
theorem Pk.tok (h : Pk w0 w a b c d g L lg q p) {x j : Nat} {cs : Array Value} {vq vl v0 : Value} (hx : w.heap[x]? = some (.cells cs 72 (0, 0))) (hxp : x ≠ p) (h0 : cs[0]? = some v0) (cq : w.cell? ⟨q, j, none⟩ = some vq) (cl : w.cell? ⟨lg, j, none⟩ = some vl) (w' : World) (k : Aw p w w') :
    w'.cell? ⟨q, j, none⟩ = some vq ∧ w'.cell? ⟨lg, j, none⟩ = some vl ∧ w'.cell? ⟨x, 0, none⟩ = some v0 := by
  obtain ⟨cq', hq, _⟩ := h.cd
  obtain ⟨cl', hl, _⟩ := h.ln
  have e1 : w'.heap[q]? = w.heap[q]? := (k.blk hq h.qp (.inr (by decide))).trans hq.symm
  have e2 : w'.heap[lg]? = w.heap[lg]? := (k.blk hl h.lp (.inr (by decide))).trans hl.symm
  exact ⟨(World.cell?_of_block (a := ⟨q, j, none⟩) e1).trans cq, (World.cell?_of_block (a := ⟨lg, j, none⟩) e2).trans cl, (blk_cell (k.blk hx hxp (.inr (by decide))) 0).trans h0⟩
theorem pw_new (w : World) : Pw (w.alloc (.cells #[.slice none 0 0, .int .i64 0] 69)) w.heap.size none 0 0 0 := ⟨blk_new w _, ⟨[], World.ownsRow_nil _ _ _ _⟩, by omega, by omega, fun h => by omega⟩
end Go.Proofs.YtefhcgnamfnkbaaDoor.Pr
namespace Go.Proofs.YtefhcgnamfnkbaaDoor.Pr
open Go.RowKit Go.Proofs.YtefhcgnamfnkbaaDoorW.PrintWords Go.Proofs.YtefhcgnamfnkbaaDoorW.PrintLast Go.Proofs.YtefhcgnamfnkbaaDoorW.PrintMore
open Go.Proofs.YtefhcgnamfnkbaaDoor.Sb
set_option linter.unusedVariables false
set_option linter.unusedSimpArgs false
theorem TkY.up {w w' : World} {g : Nat} {ts : List Tk} (h : TkY w g ts) (k : ∀ i, i < w.heap.size → i = g → w'.heap[i]? = w.heap[i]?) : TkY w' g ts := fun i t hi => by
  obtain ⟨c0, c1, c2, c3, r⟩ := h i t hi
  have hg : g < w.heap.size := World.block_lt_of_cell? w _ c0
  have hb := k g hg rfl
  exact ⟨(World.cell?_of_block (a := ⟨g, i * 4, none⟩) hb).trans c0, (World.cell?_of_block (a := ⟨g, i * 4 + 1, none⟩) hb).trans c1, (World.cell?_of_block (a := ⟨g, i * 4 + 2, none⟩) hb).trans c2, (World.cell?_of_block (a := ⟨g, i * 4 + 3, none⟩) hb).trans c3, r⟩
theorem tky_read {w : World} {B L cap : Nat} {A : Option Addr} {ts : List Tk} (h : w.ownsRow B 72 4 (.slice A L cap) L (flat4 ts)) (hg : ∀ t ∈ ts, GoodT t) (hts : 0 < ts.length) : ts.length = L ∧ ∃ g cs, A = some ⟨g, 0, none⟩ ∧ B ≤ g ∧ w.heap[g]? = some (.cells cs 72 (0, 0)) ∧ TkY w g ts := by
  have hl : ts.length = L := by have := h.1; rw [flat4_len] at this; omega
  have hL : 0 < L := by omega
  obtain ⟨g, cap', hv, hc, _⟩ := h.form hL
  simp only [Value.slice.injEq] at hv
  obtain ⟨rfl, _, rfl⟩ := hv
  obtain ⟨cs, hcs⟩ := own_typed h g (by simp [Value.ownBlock])
  have ea : ∀ j, (⟨g, 0, none⟩ : Addr).add j = ⟨g, j, none⟩ := fun j => by unfold Addr.add; by_cases h0 : j = 0 <;> simp [h0]
  refine ⟨hl, g, cs, rfl, own_base h g (by simp [Value.ownBlock]), hcs, fun i t ht => ?_⟩
  obtain ⟨e0, e1, e2, e3⟩ := flat4_at ts i t ht
  have c0 := h.cells (g := g) rfl _ _ e0
  have c1 := h.cells (g := g) rfl _ _ e1
  have c2 := h.cells (g := g) rfl _ _ e2
  have c3 := h.cells (g := g) rfl _ _ e3
  rw [ea] at c0 c1 c2 c3
  exact ⟨c0, c1, c2, c3, hg t (List.mem_of_getElem? ht)⟩
theorem Aw.ix {p g N : Nat} {F : Nat → Int} {w w' : World} (h : Aw p w w') (k : Ix w g N F) (hp : g ≠ p) : Ix w' g N F := by
  obtain ⟨cs, h1, h2, h3⟩ := k
  exact ⟨cs, h.blk h1 hp (.inr (by decide)), h2, h3⟩
/-- What stands about Pack's writer at p. -/
structure Pkx (w0 w : World) (a b c d : Int) (g : Nat) (ts : List Tk) (lg : Nat) (ln : Nat → Nat) (q p : Nat) : Prop where
  hd : w.heap[w0.heap.size]? = some (.cells #[.int .u8 a, .int .u8 b, .int .u8 c, .int .u8 d, .int .u8 0] 5 (0, 0))
  tk : ∃ cs, w.heap[g]? = some (.cells cs 72 (0, 0))
  tr : TkY w g ts
  ll : Ix w lg 272 (fun j => (ln j : Int))
  cd : Ix w q 272 (fun j => (codeOf ln j : Int))
  hp : w0.heap.size < p
  gp : g ≠ p
  lp : lg ≠ p
  qp : q ≠ p
  bw : Below w0.heap.size w0 w
variable {w0 w w' : World} {a b c d : Int} {g lg q p : Nat} {ts : List Tk} {ln : Nat → Nat}
theorem Pkx.up (h : Pkx w0 w a b c d g ts lg ln q p) (k : Below w.heap.size w w') : Pkx w0 w' a b c d g ts lg ln q p := by
  obtain ⟨cs, hcs⟩ := h.tk
  exact ⟨blk_below h.hd k, ⟨cs, blk_below hcs k⟩, h.tr.below k, h.ll.up k, h.cd.up k, h.hp, h.gp, h.lp, h.qp, below_step h.bw k⟩
theorem Pkx.aw (h : Pkx w0 w a b c d g ts lg ln q p) (k : Aw p w w') : Pkx w0 w' a b c d g ts lg ln q p := by
  obtain ⟨cs, hcs⟩ := h.tk
  have hp := h.hp
  exact ⟨k.blk h.hd (by omega) (.inl h.hp), ⟨cs, k.blk hcs h.gp (.inr (by decide))⟩, h.tr.up (fun i hi e => by subst e; rw [k.blk hcs h.gp (.inr (by decide)), hcs]), k.ix h.ll h.lp, k.ix h.cd h.qp, h.hp, h.gp, h.lp, h.qp, Aw.below h.bw (by omega) k⟩
theorem Pkx.tok (h : Pkx w0 w a b c d g ts lg ln q p) {x j : Nat} {cs : Array Value} {vq vl v0 : Value} (hx : w.heap[x]? = some (.cells cs 72 (0, 0))) (hxp : x ≠ p) (h0 : cs[0]? = some v0) (cq : w.cell? ⟨q, j, none⟩ = some vq) (cl : w.cell? ⟨lg, j, none⟩ = some vl) (w' : World) (k : Aw p w w') :
    w'.cell? ⟨q, j, none⟩ = some vq ∧ w'.cell? ⟨lg, j, none⟩ = some vl ∧ w'.cell? ⟨x, 0, none⟩ = some v0 := by
  obtain ⟨cq', hq, _⟩ := h.cd
  obtain ⟨cl', hl, _⟩ := h.ll
  have e1 : w'.heap[q]? = w.heap[q]? := (k.blk hq h.qp (.inr (by decide))).trans hq.symm
  have e2 : w'.heap[lg]? = w.heap[lg]? := (k.blk hl h.lp (.inr (by decide))).trans hl.symm
  exact ⟨(World.cell?_of_block (a := ⟨q, j, none⟩) e1).trans cq, (World.cell?_of_block (a := ⟨lg, j, none⟩) e2).trans cl, (blk_cell (k.blk hx hxp (.inr (by decide))) 0).trans h0⟩
theorem px_new (w : World) : Px (w.alloc (.cells #[.slice none 0 0, .int .i64 0] 69)) w.heap.size none 0 0 0 [] := ⟨⟨blk_new w _, World.ownsRow_nil _ _ _ _⟩, rfl, by omega⟩
theorem Px.up {A : Option Addr} {L cap free : Nat} {bs : List Bool} (h : Px w p A L cap free bs) (k : Below w.heap.size w w') : Px w' p A L cap free bs := ⟨h.1.up k, h.2⟩
theorem bput_x4 (p k : Nat) (A : Option Addr) (L cap free : Nat) (bs : List Bool) (w : World) (h : Px w p A L cap free bs) (hk : k ≤ 15) (hL : bs.length ≤ 1000000) :
    Calls Tryd.prog 32 #[.pointer (some ⟨p, 0, none⟩), .int .i64 (k : Int), .int .i64 4] w fun r w' => r = .returned (.tuple #[]) ∧ ∃ A' L' cap' free', Px w' p A' L' cap' free' (bs ++ kb k 4) ∧ Aw p w w' := bput_x p k 4 A L cap free bs w h (by omega) (by omega) (by omega)
theorem bput_x15 (p k : Nat) (A : Option Addr) (L cap free : Nat) (bs : List Bool) (w : World) (h : Px w p A L cap free bs) (hk : k < 32768) (hL : bs.length ≤ 2000000) :
    Calls Tryd.prog 32 #[.pointer (some ⟨p, 0, none⟩), .int .i64 (k : Int), .int .i64 15] w fun r w' => r = .returned (.tuple #[]) ∧ ∃ A' L' cap' free', Px w' p A' L' cap' free' (bs ++ kb k 15) ∧ Aw p w w' := bput_x p k 15 A L cap free bs w h (by omega) (by omega) (by omega)
theorem tok_nat {s : ByteArray} {t : Tk} (h : t ∈ tokF s 0) : ∃ y a x b : Nat, t = ⟨(y : Int), (a : Int), (x : Int), (b : Int)⟩ ∧ y < 272 ∧ a < 256 ∧ x ≤ 8 ∧ b < 32768 := by
  obtain ⟨j, hj, rfl⟩ := tok_at h
  rcases tok_cases hj with ⟨e, _⟩ | ⟨y, a, x, b, f, e, h1, h2, h3, h4, h5, h6, h7, _⟩
  · have hb := bnF_lt s j
    exact ⟨bnF s j, 0, 0, 0, e, by omega, by omega, by omega, by omega⟩
  · refine ⟨y, a, x, b, e, h2, ?_, h6, h7⟩
    have h8 : 2 ^ x ≤ 2 ^ 8 := Nat.pow_le_pow_right (by omega) h6
    have h9 : (2 : Nat) ^ 8 = 256 := by decide
    omega
/-- One token more. -/
theorem tokB_more {H : List Bool} {e y a x b : Nat} (h : ts[e]? = some ⟨(y : Int), (a : Int), (x : Int), (b : Int)⟩) : H ++ tokB ln (ts.take (e + 1)) = if 256 ≤ y then ((H ++ tokB ln (ts.take e)) ++ kb (codeOf ln y) (ln y) ++ kb a x) ++ kb b 15 else (H ++ tokB ln (ts.take e)) ++ kb (codeOf ln y) (ln y) := by
  have e1 : tokB ln [⟨(y : Int), (a : Int), (x : Int), (b : Int)⟩] = tkBits ln ⟨(y : Int), (a : Int), (x : Int), (b : Int)⟩ := by rw [tokB_cons]; exact List.append_nil _
  rw [take_next h, tokB_app, e1]
  unfold tkBits
  rw [Int.toNat_natCast, Int.toNat_natCast, Int.toNat_natCast, Int.toNat_natCast]
  by_cases hy : 256 ≤ y
  · rw [if_pos hy, if_pos (show 256 ≤ (y : Int) by omega)]
    simp only [List.append_assoc]
  · rw [if_neg hy, if_neg (show ¬ 256 ≤ (y : Int) by omega), List.append_nil, List.append_assoc]
end Go.Proofs.YtefhcgnamfnkbaaDoor.Pr
namespace Go.Proofs.YtefhcgnamfnkbaaDoor.Pr
open Go.RowKit Go.Proofs.YtefhcgnamfnkbaaDoorW.PrintWords Go.Proofs.YtefhcgnamfnkbaaDoorW.PrintLast Go.Proofs.YtefhcgnamfnkbaaDoorW.PrintMore
open Go.Proofs.YtefhcgnamfnkbaaDoor.Sb
set_option linter.unusedVariables false
set_option linter.unusedSimpArgs false
set_option maxHeartbeats 16000000 in
set_option maxRecDepth 2000000 in
theorem pack_x (s : ByteArray) (w : World) (hs : s.size ≤ 4000) (hb : Gb w) (hg : 1 ≤ w.heap.size) :
    Calls Tryd.prog 10 #[.string s] w fun r w' => r = .returned (.string (packF s)) ∧ Below w.heap.size w w' := by
  obtain ⟨ts, hts⟩ : ∃ ts, ts = tokF s 0 := ⟨_, rfl⟩
  obtain ⟨ln, hln⟩ : ∃ ln, ln = lnS s := ⟨_, rfl⟩
  obtain ⟨R, hR⟩ : ∃ R, R = packF s := ⟨_, rfl⟩
  rw [← hR]
  have HG := Aside0.mk hb
  have HR := Aside0.mk hR
  have TN := Aside0.mk (show ∀ t ∈ ts, ∃ y a x b : Nat, t = ⟨(y : Int), (a : Int), (x : Int), (b : Int)⟩ ∧ y < 272 ∧ a < 256 ∧ x ≤ 8 ∧ b < 32768 from hts ▸ fun t h => tok_nat h)
  have TG := Aside0.mk (show ∀ t ∈ ts, GoodT t from hts ▸ fun t h => tok_good h)
  have htl : ts.length ≤ 4000 := by have := tok_len (s := s) s.size 0 (by omega); rw [hts]; omega
  have LE := Aside0.mk (show ∀ y, ln y ≤ 15 from hln ▸ lnS_le s)
  have HLN := Aside0.mk (show ln = lensOf (used (syms ts) 272) by rw [hln, hts]; rfl)
  have HT0 := Aside0.mk (show 0 < s.size → 0 < ts.length by rw [hts]; exact tok_some)
  have HBL := Aside0.mk (show ∀ e, (headB ln 272 ++ tokB ln (ts.take e)).length ≤ 1000000 by
    intro e
    have h1 := tokB_len_of (s := s) (ts.take e) (fun t ht => by rw [hts] at ht; exact List.mem_of_mem_take ht)
    have h2 : (ts.take e).length ≤ ts.length := List.length_take_le' _ _
    rw [List.length_append, headB_len, hln]
    omega)
  have HALL := Aside0.mk (show headB ln 272 ++ tokB ln (ts.take ts.length) = allB s by rw [List.take_length, hln, hts]; rfl)
  have HTS := Aside0.mk hts
  clear hb hR hts hln
  go_enter Tryd.func10, Tryd.ntmps10
  go_upto_region 3 with (fail)
  obtain ⟨a, ha⟩ : ∃ a : Int, a = (s.size : Int) / 16777216 := ⟨_, rfl⟩
  obtain ⟨b, hb⟩ : ∃ a : Int, a = (s.size : Int) / 65536 := ⟨_, rfl⟩
  obtain ⟨c, hc⟩ : ∃ a : Int, a = (s.size : Int) / 256 := ⟨_, rfl⟩
  obtain ⟨d, hd⟩ : ∃ a : Int, a = (s.size : Int) % 256 := ⟨_, rfl⟩
  rw [← ha, ← hb, ← hc, ← hd]
  have HH0 := Aside0.mk (show ∀ m, hdF s m = [a, b, c, d, m] from fun m => by rw [ha, hb, hc, hd]; rfl)
  clear ha hb hc hd
  have H0 := Aside0.mk (blk_new w (.cells #[.int .u8 a, .int .u8 b, .int .u8 c, .int .u8 d, .int .u8 0] 5))
  have HB0 := Aside0.mk (show Below w.heap.size w (w.alloc (.cells #[.int .u8 a, .int .u8 b, .int .u8 c, .int .u8 d, .int .u8 0] 5)) from climb)
  have hsz : w.heap.size + 1 = (w.alloc (.cells #[.int .u8 a, .int .u8 b, .int .u8 c, .int .u8 d, .int .u8 0] 5)).heap.size := by simp
  obtain ⟨W, hW⟩ : ∃ W, W = w.alloc (.cells #[.int .u8 a, .int .u8 b, .int .u8 c, .int .u8 d, .int .u8 0] 5) := ⟨_, rfl⟩
  rw [← hW] at H0 HB0 hsz ⊢
  clear hW
  by_cases hn : 0 < s.size
  · have ht0 := HT0.out hn
    obtain ⟨L, hL⟩ : ∃ L, L = ts.length := ⟨_, rfl⟩
    have HLL := Aside0.mk hL
    have hL1 : 0 < L := by omega
    have hL2 : L ≤ 4000 := by omega
    clear hL ht0 htl
    go_wp2_with (first
      | (go_at_call 29; (with_reducible refine (tokens_x s _ (by omega) (HG.out.below hg HB0.out) (by omega)).mono ?_); rintro _ w1 ⟨A, L', cp, rfl, ho, hb1⟩; rw [← HTS.out] at ho; obtain ⟨hlen, g, cs, rfl, hgB, hcs, hT⟩ := tky_read ho TG.out (by rw [← HLL.out]; exact hL1); rw [← HLL.out] at hlen; subst hlen; have CS1 := Aside0.mk hcs; have T1 := Aside0.mk hT; have H1 := Aside0.mk (blk_below H0.out hb1); have HB1 := Aside0.mk (below_step HB0.out hb1); have hsz1 := hb1.size; clear ho hb1 hcs hT)
      | (go_at_call 30; (with_reducible refine (lengths_x g L cp ts _ HLL.out.symm T1.out hL1 (by omega)).mono ?_); rintro _ w2 ⟨lg, rfl, hln, hb2⟩; rw [← HLN.out] at hln; have CS2 := Aside0.mk (blk_below CS1.out hb2); have T2 := Aside0.mk (T1.out.below hb2); have LN2 := Aside0.mk hln; have H2 := Aside0.mk (blk_below H1.out hb2); have HB2 := Aside0.mk (below_step HB1.out hb2); have hsz2 := hb2.size; clear hb2 hln)
      | (go_at_call 31; (with_reducible refine (codes_x lg ln _ LN2.out).mono ?_); rintro _ w3 ⟨q, rfl, hcd, hb3⟩; generalize decide ((sumTo ln 15 : Int) ≤ 32768) = ok; have CS3 := Aside0.mk (blk_below CS2.out hb3); have T3 := Aside0.mk (T2.out.below hb3); have LN3 := Aside0.mk (LN2.out.up hb3); have CD3 := Aside0.mk hcd; have H3 := Aside0.mk (blk_below H2.out hb3); have HB3 := Aside0.mk (below_step HB2.out hb3); have hsz3 := hb3.size; clear hb3 hcd))
    have P0 := Aside0.mk (show Pkx w (w3.alloc (.cells #[.slice none 0 0, .int .i64 0] 69)) a b c d g ts lg ln q w3.heap.size from ⟨blk_alloc H3.out _, ⟨cs, blk_alloc CS3.out _⟩, T3.out.below climb, LN3.out.up climb, CD3.out.up climb, by have := blk_lt H3.out; omega, by have := blk_lt CS3.out; omega, by have := LN3.out.lt; omega, by have := CD3.out.lt; omega, below_step HB3.out climb⟩)
    have Q0 := Aside0.mk (px_new w3)
    clear H0 HB0 CS1 T1 H1 HB1 CS2 T2 LN2 H2 HB2 CS3 T3 LN3 CD3 H3 HB3 hsz hsz1 hsz2 hsz3 hgB
    obtain ⟨p, hp⟩ : ∃ p, p = w3.heap.size := ⟨_, rfl⟩
    rw [← hp] at P0 Q0 ⊢
    clear hp
    go_loopg [43] 272 (fun kq v43 w' => ∃ (e : Nat) (A : Option Addr) (n cn fr : Nat), v43 = .int .i64 (e : Int) ∧ e + kq = 272 ∧ Aside0 (Pkx w w' a b c d g ts lg ln q p) ∧ Aside0 (Px w' p A n cn fr (headB ln e)))
    case atStart => exact ⟨0, none, 0, 0, 0, rfl, rfl, ⟨P0.out.up climb⟩, ⟨Q0.out.up climb⟩⟩
    case round =>
      clear P0 Q0
      obtain ⟨e, A, n, cn, fr, rfl, hk, S, Q⟩ := hrel
      by_cases he : e < 272
      · as_aux_lemma =>
        have cv := S.out.ll.at_ he
        obtain ⟨v, hv⟩ : ∃ v, v = ln e := ⟨_, rfl⟩
        rw [← hv] at cv
        have HV := Aside0.mk hv
        clear hv
        go_wp2_with (first | (go_at_call 32; (with_reducible refine (bput_x4 p v A n cn fr (headB ln e) _ (Q.out.up climb) (by rw [HV.out]; exact LE.out e) (by rw [headB_len]; omega)).mono ?_); rintro _ w5 ⟨rfl, A', n', cn', fr', hQ, hA⟩; have S5 := Aside0.mk ((S.out.up climb).aw hA); have Q5 := Aside0.mk hQ; clear hQ hA))
        go_roundg (272 - (e + 1))
        case measure => omega
        case rel => exact ⟨e + 1, A', n', cn', fr', by go_num, by omega, ⟨S5.out.up climb⟩, ⟨(show headB ln e ++ kb v 4 = headB ln (e + 1) by rw [HV.out]; rfl) ▸ (Q5.out.up climb)⟩⟩
      · obtain rfl : e = 272 := by omega
        clear hk
        go_wp2_with (fail)
        go_loopg [53] L (fun kq v53 w' => ∃ (e : Nat) (A : Option Addr) (n cn fr : Nat), v53 = .int .i64 (e : Int) ∧ e + kq = L ∧ Aside0 (Pkx w w' a b c d g ts lg ln q p) ∧ Aside0 (Px w' p A n cn fr (headB ln 272 ++ tokB ln (ts.take e))))
        case atStart => exact ⟨0, A, n, cn, fr, rfl, by omega, ⟨S.out.up climb⟩, ⟨(show headB ln 272 = headB ln 272 ++ tokB ln (ts.take 0) from (List.append_nil _).symm) ▸ (Q.out.up climb)⟩⟩
        case round =>
          clear S Q he
          obtain ⟨e, A, n, cn, fr, rfl, hk, S, Q⟩ := hrel
          by_cases he : e < L
          · obtain ⟨t, ht⟩ : ∃ t, ts[e]? = some t := ⟨_, List.getElem?_eq_getElem (by rw [← HLL.out]; exact he)⟩
            obtain ⟨yn, a1, x1, b1, rfl, y1, a9, x8, b9⟩ := TN.out t (List.mem_of_getElem? ht)
            obtain ⟨k0, k1, k2, k3, _⟩ := S.out.tr e _ ht
            dsimp only at k0 k1 k2 k3
            have TM := Aside0.mk (tokB_more (ln := ln) (H := headB ln 272) ht)
            have cq := S.out.cd.at_ (j := yn) y1
            have cl := S.out.ll.at_ (j := yn) y1
            have HBE := Aside0.mk (HBL.out e)
            clear ht
            obtain ⟨B, hB⟩ : ∃ B, B = headB ln 272 ++ tokB ln (ts.take e) := ⟨_, rfl⟩
            rw [← hB] at Q TM HBE
            clear hB
            obtain ⟨vq, hvq⟩ : ∃ v, v = codeOf ln yn := ⟨_, rfl⟩
            obtain ⟨vl, hvl⟩ : ∃ v, v = ln yn := ⟨_, rfl⟩
            have hvq9 : vq ≤ 40000544 := by
              rw [hvq]
              unfold codeOf
              split
              · have h1 := fstC_small ln (n := ln yn) (by omega)
                have h2 := cntL_le ln (ln yn) yn
                omega
              · omega
            have hvl9 : vl ≤ 15 := by rw [hvl]; exact LE.out yn
            rw [← hvq, ← hvl] at TM
            rw [← hvq] at cq
            rw [← hvl] at cl
            have CQ := Aside0.mk cq
            have CL := Aside0.mk cl
            clear cq cl hvq hvl
            have r1 : (yn : Int) < 272 := by omega
            have r2 : (0 : Int) ≤ (yn : Int) := by omega
            go_upto_region 16 with (fail)
            have P4 := Aside0.mk (show Pkx w (wr.alloc (.cells #[.int .i64 (yn : Int), .int .i64 (a1 : Int), .int .i64 (x1 : Int), .int .i64 (b1 : Int)] 72)) a b c d g ts lg ln q p from S.out.up climb)
            have Q4 := Aside0.mk (show Px (wr.alloc (.cells #[.int .i64 (yn : Int), .int .i64 (a1 : Int), .int .i64 (x1 : Int), .int .i64 (b1 : Int)] 72)) p A n cn fr B from Q.out.up climb)
            have X4 := Aside0.mk (blk_new wr (.cells #[.int .i64 (yn : Int), .int .i64 (a1 : Int), .int .i64 (x1 : Int), .int .i64 (b1 : Int)] 72))
            have hxp : wr.heap.size ≠ p := by have := blk_lt Q.out.1.box; omega
            have TK := Aside0.mk (P4.out.tok X4.out hxp rfl (pw_cell_below climb CQ.out) (pw_cell_below climb CL.out))
            obtain ⟨W4, hW4⟩ : ∃ W4, W4 = wr.alloc (.cells #[.int .i64 (yn : Int), .int .i64 (a1 : Int), .int .i64 (x1 : Int), .int .i64 (b1 : Int)] 72) := ⟨_, rfl⟩
            obtain ⟨x, hx⟩ : ∃ x, x = wr.heap.size := ⟨_, rfl⟩
            rw [← hx] at X4 TK hxp ⊢
            rw [← hW4] at P4 Q4 X4 TK ⊢
            clear hW4 hx S Q CQ CL k0 k1 k2 k3
            go_region_held3 (fun w' => w'.cell? ⟨q, yn, none⟩ = some (.int .i64 (vq : Int)) ∧ w'.cell? ⟨lg, yn, none⟩ = some (.int .i64 (vl : Int)) ∧ w'.cell? ⟨x, 0, none⟩ = some (.int .i64 (yn : Int))) (first | exact TK.out _ (A5.out.climb climb) | exact TK.out _ (Aw.ofBelow climb)) (first | (go_at_call 32; (with_reducible refine (bput_x p vq vl A n cn fr B _ (Q4.out.up climb) (by omega) (by omega) (by have := HBE.out; omega)).mono ?_); rintro _ w5 ⟨rfl, A', n', cn', fr', hQ, hA⟩; have A5 := Aside0.mk ((Aw.ofBelow (w := W4) climb).trans hA); have Q5 := Aside0.mk hQ; clear hQ hA))
            have P5 := Aside0.mk (P4.out.aw A5.out)
            have X5 := Aside0.mk (A5.out.blk X4.out hxp (.inr (by decide)))
            have d0 := (blk_cell X5.out 0).trans rfl
            have d1 := (blk_cell X5.out 1).trans rfl
            have d2 := (blk_cell X5.out 2).trans rfl
            clear P4 Q4 X4 TK A5
            have HB5 := Aside0.mk (show (B ++ kb vq vl).length ≤ 1000015 by rw [List.length_append, kb_length]; have := HBE.out; omega)
            have HB6 := Aside0.mk (show (B ++ kb vq vl ++ kb a1 x1).length ≤ 1000023 by rw [List.length_append, kb_length]; have := HB5.out; omega)
            by_cases h256 : 256 ≤ yn
            · have TM2 := Aside0.mk (TM.out.trans (if_pos h256))
              have h256' : 256 ≤ (yn : Int) := by omega
              clear TM
              go_wp2_with (first
                | (go_at_call 32; (with_reducible refine (bput_x p a1 x1 A' n' cn' fr' (B ++ kb vq vl) _ (Q5.out.up climb) (by omega) (by omega) (by have := HB5.out; omega)).mono ?_); rintro _ w6 ⟨rfl, A6, n6, cn6, fr6, hQ, hA⟩; have Q6 := Aside0.mk hQ; have P6 := Aside0.mk ((P5.out.up climb).aw hA); have X6 := Aside0.mk (hA.blk (blk_below X5.out climb) hxp (.inr (by decide))); have d3 := (blk_cell X6.out 3).trans rfl; clear hQ hA)
                | (go_at_call 32; (with_reducible refine (bput_x15 p b1 A6 n6 cn6 fr6 (B ++ kb vq vl ++ kb a1 x1) _ (Q6.out.up climb) b9 (by have := HB6.out; omega)).mono ?_); rintro _ w7 ⟨rfl, A7, n7, cn7, fr7, hQ, hA⟩; have Q7 := Aside0.mk hQ; have P7 := Aside0.mk ((P6.out.up climb).aw hA); clear hQ hA))
              go_roundg (L - (e + 1))
              case measure => omega
              case rel => exact ⟨e + 1, A7, n7, cn7, fr7, by go_num, by omega, ⟨P7.out.up climb⟩, ⟨by rw [TM2.out]; exact Q7.out.up climb⟩⟩
            · have TM2 := Aside0.mk (TM.out.trans (if_neg h256))
              have h256' : ¬ 256 ≤ (yn : Int) := by omega
              clear TM
              go_wp2
              go_roundg (L - (e + 1))
              case measure => omega
              case rel => exact ⟨e + 1, A', n', cn', fr', by go_num, by omega, ⟨P5.out.up climb⟩, ⟨by rw [TM2.out]; exact Q5.out.up climb⟩⟩
          · have HE := Aside0.mk (show headB ln 272 ++ tokB ln (ts.take e) = allB s by rw [show e = ts.length by rw [← HLL.out]; omega]; exact HALL.out)
            rw [HE.out] at Q
            have hbl := allB_len s
            have hbl2 : (allB s).length ≤ 1000000 := by rw [← HE.out]; exact HBL.out e
            obtain ⟨q1, q2, q3⟩ := Q.out
            have hnl : (bytesOf (allB s)).length = n := by rw [bytesOf_length]; omega
            have HRR := Aside0.mk (show R = if n < s.size then strOfNums ([a, b, c, d, 1] ++ bi (bytesOf (allB s))) else strOfNums [a, b, c, d, 0] ++ s by rw [HR.out, ← HH0.out, ← HH0.out, ← hnl]; rfl)
            have hn1 : 0 < n := by omega
            have hnb : n ≤ 1000000 := by omega
            obtain ⟨ys, hys⟩ : ∃ ys, ys = bi (bytesOf (allB s)) := ⟨_, rfl⟩
            rw [← hys] at HRR q1
            have hyl : ys.length = n := by rw [hys, bi_len, hnl]
            have Q1 := Aside0.mk q1
            clear hys q1 q2 q3 hbl hbl2 hnl Q HE
            have c0 := Q1.out.c0
            have HH := Aside0.mk (head_own S.out.hd)
            obtain ⟨T, hT⟩ : ∃ T, T = strOfNums [a, b, c, d, 0] := ⟨_, rfl⟩
            have hcv0 : (convert 29 9 (.slice (some ⟨w.heap.size, 0, none⟩) 5 5)).run Tryd.prog wr = .ok (.string T) wr := by rw [hT]; exact bytes_run HH.out
            have hTs : T.size = 5 := by rw [hT, strOf_size]; rfl
            have hcat : ¬ 9223372036854775807 < T.size + s.size := by omega
            rw [← hT] at HRR
            clear hT
            by_cases hlt : (n : Int) < s.size
            · have HR1 := Aside0.mk (show R = strOfNums ([a, b, c, d, 1] ++ ys) from HRR.out.trans (if_pos (by omega)))
              have ho := Q1.out.own
              obtain ⟨gg, cap', hv, _, hgl⟩ := ho.form hn1
              simp only [Value.slice.injEq] at hv
              obtain ⟨rfl, _, rfl⟩ := hv
              have hgp := own_base ho gg (by simp [Value.ownBlock])
              have hwp := S.out.hp
              have hh := S.out.hd
              have e4 := (blk_cell hh 4).trans rfl
              have f4 := blk_frozen hh 4
              have H1 := Aside0.mk (head_own (blk_put (cs' := #[.int .u8 a, .int .u8 b, .int .u8 c, .int .u8 d, .int .u8 1]) hh 4 (.int .u8 1) rfl))
              have B1 := Aside0.mk (below_set (j := 4) (v := .int .u8 1) S.out.bw (Nat.le_refl w.heap.size))
              have c1 : (wr.setCell ⟨w.heap.size, 4, none⟩ (.int .u8 1)).cell? ⟨p, 0, none⟩ = some (.slice (some ⟨gg, 0, none⟩) n cn) := (cell_far (p := ⟨w.heap.size, 4, none⟩) (a := ⟨p, 0, none⟩) (by show p ≠ w.heap.size; omega) _).trans c0
              have hnews : Aside0 (∀ j u, (ub ys)[j]? = some u → (wr.setCell ⟨w.heap.size, 4, none⟩ (.int .u8 1)).cell? ((⟨gg, 0, none⟩ : Addr).add j) = some u) := ⟨fun j u hu => (cell_far (p := ⟨w.heap.size, 4, none⟩) (by rw [add_block]; show gg ≠ w.heap.size; omega) _).trans (ho.cells (g := gg) rfl j u hu)⟩
              obtain ⟨i0, hi0, hz0, hz1, hz2⟩ := info_parts byte_info
              have hwl : w.heap.size ≤ wr.heap.size := S.out.bw.size
              clear HH hcv0 hcat hh ho hgl
              go_wp2_with (first | (at_builtin; refine wpList_append_lies _ rfl _ _ _ (by rfl) w.heap.size 5 i0 _ 1 1 Tryd.underlying29 hi0 hz0 hz1 hz2 rfl (by omega) (.slice (some ⟨w.heap.size, 0, none⟩) 5 5) 5 (ub [a, b, c, d, 1]) (by rfl) H1.out ⟨gg, 0, none⟩ n cn (ub ys) (by rfl) (by simp [ub, hyl]) hnews.out (by simp [ub, Value.oneCell']) hn1 (by simp only [maxLen]; omega) (by omega) (by rw [World.size_setCell]; omega) _ rfl ?_; intro g2 cap1 w2 hown1 hgrow hat hlt1; have hcv2 : (convert 29 9 (.slice (some ⟨g2, 0, none⟩) (5 + n) cap1)).run Tryd.prog w2 = .ok (.string R) w2 := by rw [HR1.out]; exact bytes_run (B := w.heap.size) (by unfold ub at hown1 ⊢; rw [List.map_append]; exact hown1)))
              go_ret
              have hb2 := below_grown B1.out (Below.refl _ _) hgrow H1.out
              exact ⟨rfl, bl hb2⟩
            · have HR1 := Aside0.mk (show R = T ++ s from HRR.out.trans (if_neg (by omega)))
              go_wp2
              go_ret
              exact ⟨by rw [HR1.out]; rfl, bl S.out.bw⟩
  · have HH := Aside0.mk (head_own H0.out)
    have HRR := Aside0.mk (show R = strOfNums [a, b, c, d, 0] ++ s by rw [HR.out, ← HH0.out]; exact if_neg (by omega))
    obtain ⟨T, hT⟩ : ∃ T, T = strOfNums [a, b, c, d, 0] := ⟨_, rfl⟩
    have hcv0 : (convert 29 9 (.slice (some ⟨w.heap.size, 0, none⟩) 5 5)).run Tryd.prog W = .ok (.string T) W := by rw [hT]; exact bytes_run HH.out
    have hTs : T.size = 5 := by rw [hT, strOf_size]; rfl
    have hcat : ¬ 9223372036854775807 < T.size + s.size := by omega
    rw [← hT] at HRR
    clear hT
    go_wp2
    go_ret
    exact ⟨by rw [HRR.out]; rfl, bl HB0.out⟩
end Go.Proofs.YtefhcgnamfnkbaaDoor.Pr
