/- squash.lengthsOf, walked by hand: its first two loops' words. -/
import Derived.Test.YtefhcgnamfnkbaaDoorSqy
import Derived.Test.YtefhcgnamfnkbaaDoorSqv
namespace Go.Proofs.YtefhcgnamfnkbaaDoor.Pr
open Go.RowKit Go.Proofs.YtefhcgnamfnkbaaDoorW.PrintWords Go.Proofs.YtefhcgnamfnkbaaDoorW.PrintLast Go.Proofs.YtefhcgnamfnkbaaDoorW.PrintMore
set_option linter.unusedVariables false
set_option linter.unusedSimpArgs false
variable {w w' w0 : World}
/-- A token's four numbers, read. -/
structure Tn where
  y : Int
  a : Int
  x : Int
  b : Int
/-- L tokens lie at g. -/
def TkR (w : World) (g L : Nat) : Prop := ∀ i, i < L → ∃ t : Tn, w.cell? ⟨g, i * 4, none⟩ = some (.int .i64 t.y) ∧ w.cell? ⟨g, i * 4 + 1, none⟩ = some (.int .i64 t.a) ∧ w.cell? ⟨g, i * 4 + 2, none⟩ = some (.int .i64 t.x) ∧ w.cell? ⟨g, i * 4 + 3, none⟩ = some (.int .i64 t.b) ∧ 0 ≤ t.y ∧ t.y < 272 ∧ 0 ≤ t.x ∧ t.x ≤ 8
theorem TkR.up {g L : Nat} (h : TkR w g L) (k : ∀ i, i < w.heap.size → i = g → w'.heap[i]? = w.heap[i]?) : TkR w' g L := fun i hi => by
  obtain ⟨t, c0, c1, c2, c3, r⟩ := h i hi
  have hg : g < w.heap.size := World.block_lt_of_cell? w _ c0
  have hb := k g hg rfl
  exact ⟨t, (World.cell?_of_block (a := ⟨g, i * 4, none⟩) hb).trans c0, (World.cell?_of_block (a := ⟨g, i * 4 + 1, none⟩) hb).trans c1, (World.cell?_of_block (a := ⟨g, i * 4 + 2, none⟩) hb).trans c2, (World.cell?_of_block (a := ⟨g, i * 4 + 3, none⟩) hb).trans c3, r⟩
theorem TkR.below {g L : Nat} (h : TkR w g L) (k : Below w.heap.size w w') : TkR w' g L := h.up fun i hi _ => k.block i hi
/-- How often symbols have occurred in e tokens. -/
structure Cn (w0 w : World) (e : Nat) : Prop where
  box : ∃ cs : Array Value, w.heap[w0.heap.size]? = some (.cells cs 3 (0, 0)) ∧ cs.size = 272 ∧ (∀ j, j < 272 → ∃ v : Int, cs[j]? = some (.int .i64 v) ∧ 0 ≤ v ∧ v ≤ e) ∧ (0 < e → ∃ j, j < 272 ∧ ∃ v : Int, cs[j]? = some (.int .i64 v) ∧ 0 < v)
  bw : Below w0.heap.size w0 w
theorem Cn.up {e : Nat} (h : Cn w0 w e) (k : Below w.heap.size w w') : Cn w0 w' e := by
  obtain ⟨cs, h1, h2⟩ := h.box
  exact ⟨⟨cs, blk_below h1 k, h2⟩, below_step h.bw k⟩
theorem Cn.at_ {e : Nat} (h : Cn w0 w e) {j : Nat} (hj : j < 272) : ∃ v : Int, w.cell? ⟨w0.heap.size, j, none⟩ = some (.int .i64 v) ∧ w.frozen? ⟨w0.heap.size, j, none⟩ = false ∧ 0 ≤ v ∧ v ≤ e ∧ Cn w0 (w.setCell ⟨w0.heap.size, j, none⟩ (.int .i64 (v + 1))) (e + 1) := by
  obtain ⟨cs, h1, h2, h3, h4⟩ := h.box
  obtain ⟨v, e1, v0, v1⟩ := h3 j hj
  refine ⟨v, (blk_cell h1 j).trans e1, blk_frozen h1 j, v0, v1, ⟨⟨_, blk_put h1 j _ rfl, by simpa using h2, fun i hi => ?_, fun _ => ⟨j, hj, v + 1, by simp [Array.getElem?_setIfInBounds, h2, hj], by omega⟩⟩, below_set h.bw (Nat.le_refl _)⟩⟩
  by_cases hij : j = i
  · subst hij
    exact ⟨v + 1, by simp [Array.getElem?_setIfInBounds, h2, hi], by omega, by omega⟩
  · obtain ⟨u, e2, u0, u1⟩ := h3 i hi
    exact ⟨u, by simp [Array.getElem?_setIfInBounds, hij, e2], u0, by omega⟩
theorem cn_new (w : World) : Cn w (w.alloc (.cells (madeCells #[.int .i64 0] 272) 3)) 0 := by
  obtain ⟨cs, h1, h2, h3⟩ := Iv.made (P := fun v => v = 0) w 272 rfl
  exact ⟨⟨cs, h1, h2, fun j hj => by obtain ⟨v, e, hv⟩ := h3 j hj; exact ⟨v, e, by omega, by omega⟩, fun h => by omega⟩, climb⟩
/-- The symbols in use: pairs of a symbol and how often it occurs. -/
structure Us (w0 w : World) (B : Nat) (A : Option Addr) (U cap : Nat) : Prop where
  own : ∃ xs, w.ownsRow B 134 2 (.slice A U cap) U xs ∧ ∀ i, i < U → ∃ y m : Int, xs[i * 2]? = some (.int .i64 y) ∧ xs[i * 2 + 1]? = some (.int .i64 m) ∧ 0 ≤ y ∧ y < 272
  bw : Below w0.heap.size w0 w
theorem Us.up {B U cap : Nat} {A : Option Addr} (h : Us w0 w B A U cap) (k : Below w.heap.size w w') : Us w0 w' B A U cap := by
  obtain ⟨xs, ho, hx⟩ := h.own
  exact ⟨⟨xs, own_move ho (fun i hi => k.block i (own_lt ho i hi)), hx⟩, below_step h.bw k⟩
theorem Us.stored {B U cap : Nat} {A : Option Addr} (h : Us w0 w B A U cap) (hB : w0.heap.size ≤ B) {xs : List Value} {w2 w1 : World} {gg cap1 : Nat} {y m : Int} (ho : w.ownsRow B 134 2 (.slice A U cap) U xs) (hx : ∀ i, i < U → ∃ y m : Int, xs[i * 2]? = some (.int .i64 y) ∧ xs[i * 2 + 1]? = some (.int .i64 m) ∧ 0 ≤ y ∧ y < 272) (hb : Below w.heap.size w w2) (hg : w2.grownBy w1 (Value.slice A U cap).ownBlock)
    (hw : w1.ownsRow B 134 2 (.slice (some ⟨gg, 0, none⟩) (U + 1) cap1) (U + 1) (xs ++ [.int .i64 y, .int .i64 m])) (hy : 0 ≤ y ∧ y < 272) : Us w0 w1 B (some ⟨gg, 0, none⟩) (U + 1) cap1 ∧ ∀ k, k < w.heap.size → k < B → w1.heap[k]? = w.heap[k]? := by
  have hkeep : ∀ k, k < w.heap.size → k < B → w1.heap[k]? = w.heap[k]? := fun k h1 h2 => by
    rw [hg.block k (Nat.lt_of_lt_of_le h1 hb.size) (fun e => by have := own_base ho k e.symm; omega), hb.block k h1]
  have hsz := h.bw.size
  have hl : xs.length = U * 2 := ho.1
  refine ⟨⟨⟨_, hw, fun i hi => ?_⟩, ⟨hg.os.trans (hb.os.trans h.bw.os), hg.tape.trans (hb.tape.trans h.bw.tape), hg.output.trans (hb.output.trans h.bw.output), Nat.le_trans hsz (Nat.le_trans hb.size hg.size), fun k hk => ?_⟩⟩, hkeep⟩
  · by_cases hiU : i < U
    · obtain ⟨y', m', e1, e2, r⟩ := hx i hiU
      exact ⟨y', m', by rw [List.getElem?_append_left (by omega)]; exact e1, by rw [List.getElem?_append_left (by omega)]; exact e2, r⟩
    · obtain rfl : i = U := by omega
      refine ⟨y, m, ?_, ?_, hy⟩
      · rw [List.getElem?_append_right (by omega), show i * 2 - xs.length = 0 from by omega]; rfl
      · rw [List.getElem?_append_right (by omega), show i * 2 + 1 - xs.length = 1 from by omega]; rfl
  · rw [hkeep k (by omega) (by omega), h.bw.block k hk]
theorem Us.at_ {B U cap : Nat} {A : Option Addr} (h : Us w0 w B A U cap) {i : Nat} (hi : i < U) : ∃ g y m, A = some ⟨g, 0, none⟩ ∧ w.cell? ⟨g, i * 2, none⟩ = some (.int .i64 y) ∧ w.cell? ⟨g, i * 2 + 1, none⟩ = some (.int .i64 m) ∧ 0 ≤ y ∧ y < 272 := by
  obtain ⟨xs, ho, hx⟩ := h.own
  obtain ⟨y, m, e1, e2, r⟩ := hx i hi
  obtain ⟨g, cap', hv, hc, _⟩ := ho.form (by omega)
  simp only [Value.slice.injEq] at hv
  obtain ⟨rfl, _, rfl⟩ := hv
  have c1 := ho.cells (g := g) rfl _ _ e1
  have c2 := ho.cells (g := g) rfl _ _ e2
  have ea : ∀ j, (⟨g, 0, none⟩ : Addr).add j = ⟨g, j, none⟩ := fun j => by unfold Addr.add; by_cases h0 : j = 0 <;> simp [h0]
  rw [ea] at c1 c2
  exact ⟨g, y, m, rfl, c1, c2, r⟩
theorem Cn.keep {w1 : World} {e : Nat} (h : Cn w0 w e) (hk : w1.heap[w0.heap.size]? = w.heap[w0.heap.size]?) (hb : Below w0.heap.size w0 w1) : Cn w0 w1 e := by
  obtain ⟨cs, h1, h2⟩ := h.box
  exact ⟨⟨cs, hk.trans h1, h2⟩, hb⟩
theorem Cn.lt {e : Nat} (h : Cn w0 w e) : w0.heap.size < w.heap.size := by
  obtain ⟨cs, h1, h2⟩ := h.box
  exact blk_lt h1
theorem Cn.some_ {e : Nat} (h : Cn w0 w e) (he : 0 < e) : ∃ j, j < 272 ∧ ∃ v : Int, w.cell? ⟨w0.heap.size, j, none⟩ = some (.int .i64 v) ∧ 0 < v := by
  obtain ⟨cs, h1, h2, h3, h4⟩ := h.box
  obtain ⟨j, hj, v, e1, hv⟩ := h4 he
  exact ⟨j, hj, v, (blk_cell h1 j).trans e1, hv⟩
theorem made_set (w : World) (y : Nat) : Iv (w.alloc (.cells ((madeCells #[.int .i64 0] 272).setIfInBounds y (.int .i64 1)) 3)) w.heap.size 272 (fun v => 0 ≤ v ∧ v ≤ 33554432) := by
  refine ⟨_, blk_new w _, by simp [size_madeCells], fun j hj => ?_⟩
  have h0 : (madeCells #[.int .i64 0] 272)[j]? = some (Value.int .i64 0) := by
    rw [← Array.getElem?_toList, toList_madeCells_one, List.getElem?_replicate, if_pos hj]
  by_cases hij : y = j
  · subst hij
    exact ⟨1, by simp [Array.getElem?_setIfInBounds, size_madeCells, hj], by omega⟩
  · exact ⟨0, by rw [Array.getElem?_setIfInBounds_ne hij]; exact h0, by omega⟩
theorem Sz.sy {N : Nat} {A : Option Addr} {l c : Nat} (h : Sz w N A l c) : Sy w A l c := by
  obtain ⟨h, _⟩ := h
  exact h
theorem below_grown {W0 w w2 w1 : World} {e : TypeId} {sz n : Nat} {v : Value} {xs : List Value} (h : Below W0.heap.size W0 w) (hb : Below w.heap.size w w2) (hg : w2.grownBy w1 v.ownBlock) (ho : w.ownsRow W0.heap.size e sz v n xs) : Below W0.heap.size W0 w1 :=
  ⟨hg.os.trans (hb.os.trans h.os), hg.tape.trans (hb.tape.trans h.tape), hg.output.trans (hb.output.trans h.output), Nat.le_trans h.size (Nat.le_trans hb.size hg.size), fun k hk => by
    have h1 := h.size
    have h2 := hb.size
    rw [hg.block k (by omega) (fun e => by have := own_base ho k e.symm; omega), hb.block k (by omega), h.block k hk]⟩
theorem sz_one (w : World) (y : Int) {g : Nat} (h : g = w.heap.size) (y0 : 0 ≤ y) (y1 : y < 272) : Sz (w.alloc (.cells #[.int .i64 y] 3)) w.heap.size (some ⟨g, 0, none⟩) 1 1 := by
  subst h
  have hb := blk_new w (.cells #[.int .i64 y] 3)
  refine ⟨⟨⟨w.heap.size, 0, none⟩, [.int .i64 y], rfl, rfl, by omega, by omega, fun j u hu => ?_, fun u hu => ?_⟩, fun ad e => ?_⟩
  · match j, hu with
    | 0, hu =>
      obtain rfl : Value.int .i64 y = u := by simpa using hu
      exact (blk_cell hb 0).trans rfl
  · rw [List.mem_singleton.1 hu]
    exact ⟨y, rfl, y0, y1⟩
  · obtain rfl : (⟨w.heap.size, 0, none⟩ : Addr) = ad := Option.some.inj e
    exact ⟨Nat.le_refl _, _, _, hb⟩
theorem new_at3 (w : World) (o : Obj) {g : Nat} (h : g = w.heap.size) : (w.alloc o).heap[g]? = some o := h ▸ blk_new w o
/-- A row of bundles, read alone. -/
def Lv (w : World) (N : Nat) (A : Option Addr) (n M : Nat) : Prop := n = 0 ∨ ∃ g, A = some ⟨g, 0, none⟩ ∧ Bv w g n (fun A l c => Sz w N A l c ∧ l ≤ M)
theorem Bv.imp {g n : Nat} {Q Q' : Option Addr → Nat → Nat → Prop} (h : Bv w g n Q) (hq : ∀ A l c, Q A l c → Q' A l c) : Bv w g n Q' := by
  obtain ⟨cs, h1, h2, h3⟩ := h
  refine ⟨cs, h1, h2, fun i hi => ?_⟩
  obtain ⟨a, A, l, c, e1, e2, q⟩ := h3 i hi
  exact ⟨a, A, l, c, e1, e2, hq A l c q⟩
theorem Lv.up {N : Nat} {A : Option Addr} {n M : Nat} (h : Lv w N A n M) (k : Below w.heap.size w w') : Lv w' N A n M := by
  rcases h with h | ⟨g, e, h⟩
  · exact .inl h
  · exact .inr ⟨g, e, (h.up k).imp fun A l c hz => ⟨hz.1.t3 (T3.ofBelow k), hz.2⟩⟩
theorem Lv.at_ {N : Nat} {A : Option Addr} {n M : Nat} (h : Lv w N A n M) {i : Nat} (hi : i < n) : ∃ (g : Nat) (a : Int) (A' : Option Addr) (l c : Nat), A = some ⟨g, 0, none⟩ ∧ 0 ≤ g ∧ w.cell? ⟨g, i * 2, none⟩ = some (.int .i64 a) ∧ w.cell? ⟨g, i * 2 + 1, none⟩ = some (.slice A' l c) ∧ Sz w N A' l c ∧ l ≤ M := by
  rcases h with h | ⟨g, e, h⟩
  · omega
  · obtain ⟨a, A', l, c, e1, e2, hz⟩ := h.at_ hi
    exact ⟨g, a, A', l, c, e, Nat.zero_le _, e1, e2, hz.1, hz.2⟩
theorem Lb.cap_ {B N n cap M : Nat} {A : Option Addr} (h : Lb w B N A n cap M) : n ≤ cap := by
  obtain ⟨xs, ho, hx⟩ := h
  rcases ho.2 with ⟨_, e⟩ | ⟨g, cap', cur, hv, hB, hh, hnc, _⟩
  · omega
  · simp only [Value.slice.injEq] at hv
    obtain ⟨_, _, rfl⟩ := hv
    exact hnc
theorem Lb.bv {B N n cap M : Nat} {A : Option Addr} (h : Lb w B N A n cap M) (hn : 0 < n) : ∃ (g : Nat) (cs : Array Value), A = some ⟨g, 0, none⟩ ∧ B ≤ g ∧ w.heap[g]? = some (.cells cs 137 (0, 0)) ∧ Bv w g n (fun A l c => Sz w N A l c ∧ l ≤ M) := by
  obtain ⟨xs, ho, hx⟩ := h
  have hl : xs.length = n * 2 := ho.1
  rcases ho.2 with ⟨_, e⟩ | ⟨g, cap', cur, hv, hB, hh, hnc, _, hcs, htk⟩
  · omega
  · simp only [Value.slice.injEq] at hv
    obtain ⟨rfl, _, rfl⟩ := hv
    refine ⟨g, cur, rfl, hB, hh, cur, hh, by omega, fun i hi => ?_⟩
    obtain ⟨a, A', l, c, e1, e2, hz, hm⟩ := hx i hi
    have hg : ∀ j, j < n * 2 → cur[j]? = xs[j]? := fun j hj => by
      rw [← htk, List.getElem?_take, if_pos hj, Array.getElem?_toList]
    exact ⟨a, A', l, c, by rw [hg _ (by omega), Nat.mul_comm]; exact e1, by rw [hg _ (by omega), Nat.mul_comm]; exact e2, hz, hm⟩
/-- The lengths, counted up: none above b. -/
structure Ou (w0 w : World) (g3 : Nat) (A : Option Addr) (n : Nat) (b : Int) : Prop where
  lv : Lv w (g3 + 1) A n (2 ^ 15)
  out : Iv w g3 272 (fun v => 0 ≤ v ∧ v ≤ b)
  bw : Below w0.heap.size w0 w
  hg : w0.heap.size ≤ g3
theorem Ou.up {g3 n : Nat} {A : Option Addr} {b : Int} (h : Ou w0 w g3 A n b) (k : Below w.heap.size w w') : Ou w0 w' g3 A n b := ⟨h.lv.up k, h.out.up k, below_step h.bw k, h.hg⟩
theorem Ou.le {g3 n : Nat} {A : Option Addr} {b b' : Int} (h : Ou w0 w g3 A n b) (k : b ≤ b') : Ou w0 w g3 A n b' := ⟨h.lv, h.out.imp fun v hv => by omega, h.bw, h.hg⟩
theorem Sz.put {N l c : Nat} {A : Option Addr} (h : Sz w N A l c) {a : Addr} (hg : a.block < N) (v : Value) : Sz (w.setCell a v) N A l c := by
  obtain ⟨⟨ad, xs, e, h1, h2, h3, h4, h5⟩, h6⟩ := h
  obtain ⟨hN, cs, fr, hb⟩ := h6 ad e
  have hne : ad.block ≠ a.block := by omega
  refine ⟨⟨ad, xs, e, h1, h2, h3, fun j u hu => (cell_far (a := ad.add j) (by rw [add_block]; exact hne) _).trans (h4 j u hu), h5⟩, fun ad' e' => ?_⟩
  rw [e] at e'
  cases e'
  exact ⟨hN, cs, fr, (Below.heap_setCell _ a _ _ hne).trans hb⟩
theorem Ou.put {g3 n : Nat} {A : Option Addr} {b v : Int} (h : Ou w0 w g3 A n b) (j : Nat) (h0 : 0 ≤ v) (h1 : v ≤ b + 1) : Ou w0 (w.setCell ⟨g3, j, none⟩ (.int .i64 v)) g3 A n (b + 1) := by
  refine ⟨?_, (h.out.imp fun u hu => by omega).put j ⟨h0, h1⟩, below_set h.bw h.hg, h.hg⟩
  rcases h.lv with hn | ⟨g, e, hb⟩
  · exact .inl hn
  · refine .inr ⟨g, e, ?_⟩
    obtain ⟨cs, h1, h2, h3⟩ := hb
    obtain ⟨cs', k1, _⟩ := h.out
    have hne : g ≠ g3 := fun e => by
      subst e
      rw [h1] at k1
      simp only [Option.some.injEq, Obj.cells.injEq] at k1
      exact absurd k1.2.1 (by decide)
    refine ⟨cs, blk_far h1 (p := ⟨g3, j, none⟩) hne _, h2, fun i hi => ?_⟩
    obtain ⟨a, A', l, c, e1, e2, hz, hl⟩ := h3 i hi
    exact ⟨a, A', l, c, e1, e2, hz.put (a := ⟨g3, j, none⟩) (Nat.lt_succ_self g3) _, hl⟩
theorem Sz.at_ {N l c : Nat} {A : Option Addr} (h : Sz w N A l c) {f : Nat} (hf : f < l) : ∃ (ad : Addr) (y : Nat), A = some ad ∧ w.cell? (ad.add f) = some (.int .i64 (y : Int)) ∧ (y : Int) < 272 := by
  obtain ⟨⟨ad, xs, e, h1, h2, h3, h4, h5⟩, h6⟩ := h
  obtain ⟨u, hu⟩ : ∃ u, xs[f]? = some u := ⟨xs[f], List.getElem?_eq_getElem (by omega)⟩
  obtain ⟨y, rfl, y0, y1⟩ := h5 u (List.mem_of_getElem? hu)
  obtain ⟨yn, rfl⟩ := Int.eq_ofNat_of_zero_le y0
  exact ⟨ad, yn, e, h4 f _ hu, y1⟩
theorem pair_info : (Tryd.prog.info? 134).map (fun i => (i.zero, i.size, i.bytes)) = some (some (.agg #[.int .i64 0, .int .i64 0]), 2, 16) := by kernel_rfl
theorem bundle_info : (Tryd.prog.info? 137).map (fun i => (i.zero, i.size, i.bytes)) = some (some (.agg #[.int .i64 0, .slice none 0 0]), 2, 32) := by kernel_rfl
set_option maxHeartbeats 16000000 in
set_option maxRecDepth 100000 in
theorem lengths_calls (g L cap : Nat) (w : World) (h : TkR w g L) (hL : 0 < L) (hL2 : L ≤ 1000000) :
    Calls Tryd.prog 30 #[.slice (some ⟨g, 0, none⟩) L cap] w fun r w' => ∃ q, r = .returned (.slice (some ⟨q, 0, none⟩) 272 272) ∧ Iv w' q 272 (fun v => 0 ≤ v ∧ v ≤ 33554432) ∧ Below w.heap.size w w' := by
  have H := Aside0.mk h
  clear h
  have hmk : ∀ w, (Instr.makeSlice 63 (.int .i64 272) (.int .i64 272)).run Tryd.prog w = .ok (.slice (some ⟨w.heap.size, 0, none⟩) 272 272) (w.alloc (.cells (madeCells #[.int .i64 0] 272) 3)) := fun w => make_ints 272 (by omega) w
  go_enter Tryd.func30, Tryd.ntmps30
  go_wp2_with (fail)
  go_loopg [22] L (fun kq v22 w' => ∃ (e : Nat), v22 = .int .i64 (e : Int) ∧ e + kq = L ∧ Aside0 (Cn w w' e))
  case atStart => exact ⟨0, rfl, by omega, ⟨cn_new w⟩⟩
  case round => as_aux_lemma =>
    obtain ⟨e, rfl, hk, S⟩ := hrel
    by_cases he : e < L
    · obtain ⟨t, k0, k1, k2, k3, y0, y1, x0, x1⟩ := (H.out.below (bl S.out.bw)) e he
      obtain ⟨y, a, x, b⟩ := t
      dsimp only at k0 k1 k2 k3 y0 y1 x0 x1
      obtain ⟨yn, rfl⟩ := Int.eq_ofNat_of_zero_le y0
      clear x0 x1
      obtain ⟨v, cv, fv, v0, v1, hput⟩ := (S.out.up (w' := wr.alloc (.cells #[.int .i64 (yn : Int), .int .i64 a, .int .i64 x, .int .i64 b] 72)) climb).at_ (j := yn) (by omega)
      have HP := Aside0.mk hput
      clear hput
      have r1 : (yn : Int) < 272 := by omega
      go_wp2_with (fail)
      go_roundg (L - (e + 1))
      case measure => omega
      case rel => exact ⟨e + 1, by go_num, by omega, ⟨HP.out⟩⟩
    · obtain rfl : e = L := by omega
      obtain ⟨js, hjs, vs, cjs, hvs⟩ := S.out.some_ hL
      have CJ := Aside0.mk cjs
      clear cjs
      go_wp2_with (fail)
      go_loopg [6, 36] 272 (fun kq v6 v36 w' => ∃ (i U : Nat) (A : Option Addr) (cap : Nat), v6 = .slice A U cap ∧ v36 = .int .i64 (i : Int) ∧ i + kq = 272 ∧ U ≤ i ∧ (js < i → 0 < U) ∧ Aside0 (w'.cell? ⟨w.heap.size, js, none⟩ = some (.int .i64 vs)) ∧ Aside0 (Cn w w' e) ∧ Aside0 (Us w w' (w.heap.size + 1) A U cap))
      case atStart => exact ⟨0, 0, none, 0, rfl, rfl, rfl, Nat.le_refl _, fun h => by omega, CJ, S, ⟨⟨⟨[], World.ownsRow_nil _ _ _ _, fun i hi => by omega⟩, S.out.bw⟩⟩⟩
      case round => as_aux_lemma =>
        clear S CJ
        obtain ⟨i, U, A, cap, rfl, rfl, hk2, hUi, hju, CJ, S, SU⟩ := hrel
        by_cases hi : i < 272
        · obtain ⟨v, cv, _, v0, v1, _⟩ := S.out.at_ hi
          have hjv : js = i → 0 < v := fun h => by
            subst h
            have := CJ.out
            rw [cv] at this
            simp only [Option.some.injEq, Value.int.injEq, true_and] at this
            omega
          have HJV := Aside0.mk hjv
          have HJU := Aside0.mk hju
          clear hjv hju
          by_cases hv : 0 < v
          · obtain ⟨i0, hi0, hz0, hz1, hz2⟩ := info_parts pair_info
            obtain ⟨xs, ho, hx⟩ := SU.out.own
            have HO := Aside0.mk ho
            have HX := Aside0.mk hx
            clear ho hx
            have hlt := S.out.lt
            go_wp2_with (first | (at_builtin; refine wpList_append_lies _ rfl _ _ _ (by rfl) (w.heap.size + 1) 134 i0 _ 2 16 Tryd.underlying132 hi0 hz0 hz1 hz2 rfl (by omega) (.slice A U cap) U xs (by rfl) (HO.out.alloc _) ⟨wr.heap.size, 0, none⟩ 1 1 [.int .i64 (i : Int), .int .i64 v] (by rfl) (by rfl) (World.news_of_block (cs := #[.int .i64 (i : Int), .int .i64 v]) (t := 134) (fr := (0, 0)) (heap_alloc_new wr _)) (by simp [Value.oneCell']) (by omega) (by simp only [maxLen]; omega) (by omega) (by simp only [World.size_alloc]; omega) (wr.heap.size + 1) (by simp) ?_; intro gg cap1 w2 hown1 hgrow hat hlt1))
            go_roundg (272 - (i + 1))
            case measure => omega
            case rel =>
              have G := SU.out.stored (Nat.le_succ _) HO.out HX.out climb hgrow hown1 ⟨by omega, by omega⟩
              have hkp := G.2 w.heap.size hlt (by omega)
              exact ⟨i + 1, U + 1, _, cap1, rfl, by go_num, by omega, by omega, fun _ => by omega, ⟨(World.cell?_of_block (a := ⟨w.heap.size, js, none⟩) hkp).trans CJ.out⟩, ⟨S.out.keep hkp G.1.bw⟩, ⟨G.1⟩⟩
          · go_wp2
            go_roundg (272 - (i + 1))
            case measure => omega
            case rel => have h1 := HJV.out; have h2 := HJU.out; exact ⟨i + 1, U, A, cap, rfl, by go_num, by omega, by omega, fun h => (by
              rcases Nat.lt_or_ge js i with h3 | h3
              · exact h2 h3
              · have := h1 (by omega); omega), CJ, S, SU⟩
        · have hU : 0 < U := hju (by omega)
          have hU2 : U ≤ 272 := by omega
          clear CJ S hju
          have O := Iv.made (P := fun v => v = 0) wr 272 rfl
          by_cases hU1 : U = 1
          · subst hU1
            obtain ⟨gu, y, m, rfl, cy, cm, y0, y1⟩ := (SU.out.up (w' := wr.alloc (.cells (madeCells #[.int .i64 0] 272) 3)) climb).at_ (i := 0) (by omega)
            rw [Nat.zero_mul] at cy
            obtain ⟨yn, rfl⟩ := Int.eq_ofNat_of_zero_le y0
            obtain ⟨vo, co, _⟩ := O.at_ (j := yn) (by omega)
            have fo := O.free yn
            have OO2 := Aside0.mk (made_set wr yn)
            clear O
            have r1 : (yn : Int) < 272 := by omega
            go_wp2
            go_ret
            refine ⟨wr.heap.size, rfl, ?_, ?_⟩
            · exact OO2.out.up climb
            · exact below_alloc SU.out.bw _
          · have hq : ((U : Int) == 1) = false := beq_eq_false_iff_ne.2 (by omega)
            have OO := Aside0.mk O
            clear O
            obtain ⟨g3, hg3⟩ : ∃ g3, g3 = wr.heap.size := ⟨_, rfl⟩
            rw [← hg3] at OO
            have hg0 : w.heap.size ≤ g3 := by rw [hg3]; exact SU.out.bw.size
            have SU1 := Aside0.mk (SU.out.up (w' := wr.alloc (.cells (madeCells #[.int .i64 0] 272) 3)) climb)
            clear SU
            go_wp2_with (fail)
            rw [← hg3]
            clear hg3
            go_loopg [10, 61] 15 (fun kq v10 v61 w' => ∃ (r n : Nat) (A2 : Option Addr) (cap2 : Nat), v10 = .slice A2 n cap2 ∧ v61 = .int .i64 (r : Int) ∧ Aside0 (r + kq = 15) ∧ n ≤ 2 * U ∧ (0 < r → U ≤ n) ∧ n ≤ cap2 ∧ g3 < w'.heap.size ∧ Aside0 (Lv w' (g3 + 1) A2 n (2 ^ r)) ∧ Aside0 (Iv w' g3 272 (fun v => v = 0)) ∧ Aside0 (Us w w' (w.heap.size + 1) A U cap))
            case atStart => exact ⟨0, 0, none, 0, rfl, rfl, ⟨rfl⟩, by omega, fun h => by omega, Nat.le_refl _, OO.out.lt, ⟨.inl rfl⟩, OO, SU1⟩
            case round =>
              clear OO SU1
              obtain ⟨r, n, A2, cap2, rfl, rfl, hr, hnU, hUn, hnc, hg3, LB, OO, SU⟩ := hrel
              obtain ⟨W0, hW0⟩ : ∃ W0, W0 = wr := ⟨_, rfl⟩
              rw [← hW0] at LB OO SU hg3 ⊢
              clear hW0
              by_cases hr15 : r < 15
              · have hrd : decide ((r : Int) < 15) = true := decide_eq_true (by omega)
                go_wp2_with (fail)
                go_loopg [11, 12] (n + 1) (fun kq v11 v12 w' => ∃ (q i : Nat) (A3 : Option Addr) (cap3 : Nat), v11 = .slice A3 q cap3 ∧ v12 = .int .i64 (i : Int) ∧ Aside0 (i = 2 * q) ∧ i ≤ n + 1 ∧ Aside0 (n + 1 ≤ i + kq) ∧ Aside0 (Lb w' W0.heap.size (g3 + 1) A3 q cap3 (2 ^ (r + 1))) ∧ Aside0 (Below W0.heap.size W0 w'))
                case atStart => exact ⟨0, 0, none, 0, rfl, rfl, ⟨rfl⟩, by omega, ⟨by omega⟩, ⟨Lb.nil _ _ _ _⟩, ⟨climb⟩⟩
                case round =>
                  obtain ⟨q, i, A3, cap3, rfl, rfl, hiq, hin, hk4, LN, SB⟩ := hrel
                  by_cases hi : (i : Int) + 1 < n
                  · obtain ⟨gl, a1, A1, l1, c1, hA, _, k0, k1, z1, m1⟩ := LB.out.at_ (i := i) (by omega)
                    subst hA
                    obtain ⟨gl2, a2, B1, l2, c2, e2, _, k2, k3, z2, m2⟩ := LB.out.at_ (i := i + 1) (by omega)
                    obtain rfl : gl = gl2 := by simpa using e2
                    clear e2
                    have L0 := Aside0.mk (two_cells k0 k1 k2 k3)
                    have Z1 := Aside0.mk z1
                    have Z2 := Aside0.mk z2
                    have HM := Aside0.mk (show l1 ≤ 2 ^ r ∧ l2 ≤ 2 ^ r from ⟨m1, m2⟩)
                    have p1 : l1 ≤ 32768 := by
                      have h2 : 2 ^ r ≤ 2 ^ 15 := Nat.pow_le_pow_right (by omega) (by omega)
                      exact Nat.le_trans m1 h2
                    have p2 : l2 ≤ 32768 := by
                      have h2 : 2 ^ r ≤ 2 ^ 15 := Nat.pow_le_pow_right (by omega) (by omega)
                      exact Nat.le_trans m2 h2
                    clear z1 z2 m1 m2
                    obtain ⟨xs, ho, hx⟩ := LN.out
                    have HO := Aside0.mk ho
                    have HX := Aside0.mk hx
                    clear ho hx
                    obtain ⟨i0, hi0, hz0, hz1, hz2⟩ := info_parts bundle_info
                    have r1 : (i : Int) < n := by omega
                    have r2 : IntKind.i64.wrap ((i : Int) + 1) = (i : Int) + 1 := by rw [IntKind.wrap_i64]; omega
                    have r3 : (0 : Int) ≤ i := by omega
                    have hsz := SB.out.size
                    have hlq : q ≤ 1000 := by have := hiq.out; omega
                    have r4 : (i : Int) + 1 < n := hi
                    have r5 : (0 : Int) ≤ (i : Int) + 1 := by omega
                    go_upto_region 25 with (fail)
                    go_region_held3 (fun w' => w'.cell? ⟨gl, i * 2, none⟩ = some (.int .i64 a1) ∧ w'.cell? ⟨gl, i * 2 + 1, none⟩ = some (.slice A1 l1 c1) ∧ w'.cell? ⟨gl, (i + 1) * 2, none⟩ = some (.int .i64 a2) ∧ w'.cell? ⟨gl, (i + 1) * 2 + 1, none⟩ = some (.slice B1 l2 c2)) (first | exact L0.out _ SB3.out | exact L0.out _ (bl SB3.out) | exact L0.out _ (bl SB2.out) | exact L0.out _ (bl SB.out)) (first
                      | (go_at_call 73; (with_reducible refine (concat_calls wr.heap.size A1 B1 l1 c1 l2 c2 _ ((blk_cell (blk_below (blk_new wr (.cells #[.slice A1 l1 c1, .slice B1 l2 c2] 63)) climb) 0).trans rfl) ((blk_cell (blk_below (blk_new wr (.cells #[.slice A1 l1 c1, .slice B1 l2 c2] 63)) climb) 1).trans rfl) ((Z1.out.sy.up (bl SB.out)).up climb) ((Z2.out.sy.up (bl SB.out)).up climb) (by omega) (by omega)).mono ?_); rintro _ w2 ⟨A9, c9, rfl, hz9, hb9⟩; have HB := Aside0.mk (show Below wr.heap.size wr w2 from below_step climb hb9); have SB2 := Aside0.mk (below_step SB.out HB.out); have Z9 := Aside0.mk hz9; clear hb9 hz9)
                      | (refine wp_append_lies _ _ _ _ rfl W0.heap.size 137 i0 _ 2 32 Tryd.underlying135 hi0 hz0 hz1 hz2 rfl (by omega) (.slice A3 q cap3) q xs (by rfl) (own_move HO.out (fun k hk => (bl HB.out).block k (own_lt HO.out k hk))) ⟨w2.heap.size, 0, none⟩ 1 1 [.int .i64 (IntKind.i64.wrap (a1 + a2)), .slice A9 (l1 + l2) c9] (by rfl) (by rfl) (World.news_of_block (cs := #[.int .i64 (IntKind.i64.wrap (a1 + a2)), .slice A9 (l1 + l2) c9]) (t := 137) (fr := (0, 0)) (heap_alloc_new w2 _)) (by simp [Value.oneCell']) (by omega) (by simp only [maxLen]; omega) (by omega) (by have := SB2.out.size; simp only [World.size_alloc]; omega) (w2.heap.size + 1) (by simp) ?_; intro gg cap1 w3 hown1 hgrow hat hlt1; have SB3 := Aside0.mk (show Below W0.heap.size W0 w3 from below_grown SB.out (bl HB.out) hgrow HO.out); have HGR := Aside0.mk hgrow; clear hgrow hat hlt1))
                    go_wp2
                    go_roundg (n + 1 - (i + 2))
                    case measure => have := hk4.out; omega
                    case rel =>
                      have h1 := hiq.out
                      have h2 := hk4.out
                      have h3 := HM.out
                      have HO2 := own_move HO.out (fun k hk => HB.out.block k (own_lt HO.out k hk))
                      have HX2 : ∀ i, i < q → ∃ (a : Int) (A' : Option Addr) (l c : Nat), xs[i * 2]? = some (.int .i64 a) ∧ xs[i * 2 + 1]? = some (.slice A' l c) ∧ Sz w2 (g3 + 1) A' l c ∧ l ≤ 2 ^ (r + 1) := fun i hi => by
                        obtain ⟨a, A', l, c, e1, e2, hz, hl⟩ := HX.out i hi
                        exact ⟨a, A', l, c, e1, e2, hz.t3 (T3.ofBelow HB.out), hl⟩
                      exact ⟨q + 1, i + 2, _, cap1, rfl, by go_num, ⟨by omega⟩, by omega, ⟨by omega⟩, ⟨(Lb.stored HO2 HX2 climb HGR.out hown1 (Z9.out.low (by refine Nat.le_trans (show g3 + 1 ≤ wr.heap.size by have := SB.out.size; omega) ?_; exact Below.size (w := wr) climb)) (by rw [Nat.pow_succ]; omega)).up climb⟩, ⟨bl SB3.out⟩⟩
                  · have hqn : 2 * q = n ∨ 2 * q = n + 1 ∨ 2 * q = n - 1 := by have := hiq.out; omega
                    have hq2 : q ≤ U := by have := hiq.out; omega
                    have hq3 : 2 * q ≤ n + 1 := by have := hiq.out; omega
                    have hq4 : n ≤ 2 * q + 1 := by have := hiq.out; omega
                    have hib : (i : Int) ≤ 1000 := by omega
                    clear hqn hiq hk4 hin
                    go_wp2_with (fail)
                    clear hi
                    go_loopg [11, 101] U (fun kq v11 v101 w' => ∃ (i : Nat) (A3 : Option Addr) (cap3 : Nat), v11 = .slice A3 (q + i) cap3 ∧ v101 = .int .i64 (i : Int) ∧ Aside0 (i + kq = U) ∧ Aside0 (Lb w' W0.heap.size (g3 + 1) A3 (q + i) cap3 (2 ^ (r + 1))) ∧ Aside0 (Below W0.heap.size W0 w'))
                    case atStart => exact ⟨0, A3, cap3, rfl, rfl, ⟨by omega⟩, LN, SB⟩
                    case round =>
                      clear LN SB
                      obtain ⟨i, A3, cap3, rfl, rfl, hk4, LN, SB⟩ := hrel
                      by_cases hi : i < U
                      · obtain ⟨gu, y, m, hA, cy, cm, y0, y1⟩ := (SU.out.up SB.out).at_ hi
                        subst hA
                        have gul : gu < wr.heap.size := World.block_lt_of_cell? wr _ cy
                        obtain ⟨xs, ho, hx⟩ := LN.out
                        have HO := Aside0.mk ho
                        have HX := Aside0.mk hx
                        clear ho hx
                        obtain ⟨i0, hi0, hz0, hz1, hz2⟩ := info_parts bundle_info
                        have hsz := SB.out.size
                        go_wp2_with (first | (at_builtin; refine wpList_append_lies _ rfl _ _ _ (by rfl) W0.heap.size 137 i0 _ 2 32 Tryd.underlying135 hi0 hz0 hz1 hz2 rfl (by omega) (.slice A3 (q + i) cap3) (q + i) xs (by rfl) (own_move HO.out (fun k hk => (climb : Below wr.heap.size wr _).block k (own_lt HO.out k hk))) ⟨wr.heap.size + 1 + 1, 0, none⟩ 1 1 [.int .i64 m, .slice (some ⟨wr.heap.size + 1, 0, none⟩) 1 1] (by rfl) (by rfl) (World.news_of_block (cs := #[.int .i64 m, .slice (some ⟨wr.heap.size + 1, 0, none⟩) 1 1]) (t := 137) (fr := (0, 0)) (new_at3 _ _ (by simp))) (by simp [Value.oneCell']) (by omega) (by simp only [maxLen]; omega) (by omega) (by simp only [World.size_alloc]; omega) (wr.heap.size + 1 + 1 + 1) (by simp) ?_; intro gg cap1 w3 hown1 hgrow hat hlt1))
                        have hb9 : Below wr.heap.size wr ((((wr.alloc (.cells #[.int .i64 y, .int .i64 m] 134)).alloc (.cells #[.int .i64 y] 3)).alloc (.cells #[.int .i64 m, .slice (some ⟨wr.heap.size + 1, 0, none⟩) 1 1] 137))) := climb
                        have SB9 := below_grown SB.out hb9 hgrow HO.out
                        have HGR := Aside0.mk hgrow
                        have SB8 := Aside0.mk SB9
                        clear hgrow hat hlt1 SB9
                        go_roundg (U - (i + 1))
                        case measure => have := hk4.out; omega
                        case rel =>
                          have h2 := hk4.out
                          have hy : Sz (wr.alloc (.cells #[.int .i64 y, .int .i64 m] 134) |>.alloc (.cells #[.int .i64 y] 3)) (g3 + 1) (some ⟨wr.heap.size + 1, 0, none⟩) 1 1 := (sz_one _ y (by simp) y0 y1).low (by simp only [World.size_alloc]; omega)
                          have HO2 := own_move HO.out (fun k hk => (show Below wr.heap.size wr (wr.alloc (.cells #[.int .i64 y, .int .i64 m] 134) |>.alloc (.cells #[.int .i64 y] 3)) from climb).block k (own_lt HO.out k hk))
                          have HX2 : ∀ j, j < q + i → ∃ (a : Int) (A' : Option Addr) (l c : Nat), xs[j * 2]? = some (.int .i64 a) ∧ xs[j * 2 + 1]? = some (.slice A' l c) ∧ Sz (wr.alloc (.cells #[.int .i64 y, .int .i64 m] 134) |>.alloc (.cells #[.int .i64 y] 3)) (g3 + 1) A' l c ∧ l ≤ 2 ^ (r + 1) := fun j hj => by
                            obtain ⟨a, A', l, c, e1, e2, hz, hl⟩ := HX.out j hj
                            exact ⟨a, A', l, c, e1, e2, hz.t3 (T3.ofBelow climb), hl⟩
                          exact ⟨i + 1, _, cap1, rfl, by go_num, ⟨by omega⟩, ⟨Lb.stored HO2 HX2 climb HGR.out hown1 hy Nat.one_le_two_pow⟩, SB8⟩
                      · obtain rfl : i = U := by have := hk4.out; omega
                        have hcp := LN.out.cap_
                        obtain ⟨gn, csn, hA, hgB, hgt, hbv⟩ := LN.out.bv (by omega)
                        subst hA
                        have BV := Aside0.mk hbv
                        have GT := Aside0.mk hgt
                        clear hbv hgt LN
                        go_wp2_with (first | (go_at_call 74; (with_reducible refine (sortStable_calls cap3 _ BV.out (by omega)).mono ?_); rintro _ w1 ⟨rfl, S', A'⟩; have S1 := Aside0.mk S'; have A1 := Aside0.mk A'; clear S' A'))
                        go_roundg (15 - (r + 1))
                        case measure => have := hr.out; omega
                        case rel =>
                          have h2 := hr.out
                          have hbl := Ap.then SB.out A1.out hgB SB.out.size
                          exact ⟨r + 1, q + i, _, cap3, rfl, by go_num, ⟨by omega⟩, by omega, fun _ => by omega, hcp, (Nat.lt_of_lt_of_le hg3 hbl.size), ⟨.inr ⟨gn, rfl, S1.out.imp fun A l c hz => ⟨hz.1.t3 (T3.ap A1.out GT.out), hz.2⟩⟩⟩, ⟨OO.out.up hbl⟩, ⟨SU.out.up hbl⟩⟩
              · obtain rfl : r = 15 := by have := hr.out; omega
                have hn1 := hUn (by omega)
                have hU3 : 2 ≤ U := by omega
                clear hUn hr hr15
                obtain ⟨m, hm⟩ : ∃ m : Nat, (m : Int) = min (n : Int) (2 * (U : Int) - 2) := ⟨(min (n : Int) (2 * (U : Int) - 2)).toNat, by omega⟩
                have hmn : m ≤ n := by omega
                have hm5 : m ≤ 542 := by omega
                have O0 : Aside0 (Ou w W0 g3 A2 n (0 * 32768)) := ⟨⟨LB.out, OO.out.imp fun v hv => by omega, SU.out.bw, hg0⟩⟩
                clear LB OO SU
                go_wp2_with (fail)
                rw [← hm, Int.toNat_natCast, Int.max_eq_left (show (0 : Int) ≤ (m : Int) by omega)]
                clear hm
                go_loopg [129] m (fun kq v129 w' => ∃ (d : Nat), v129 = .int .i64 (d : Int) ∧ Aside0 (d + kq = m) ∧ Aside0 (Ou w w' g3 A2 n ((d : Int) * 32768)))
                case atStart => exact ⟨0, rfl, ⟨by omega⟩, O0⟩
                case round =>
                  clear O0
                  obtain ⟨d, rfl, hd, S⟩ := hrel
                  by_cases hdm : d < m
                  · obtain ⟨gl, a1, A1, l1, c1, hA, _, k0, k1, z1, m1⟩ := S.out.lv.at_ (i := d) (by omega)
                    subst hA
                    have m2 : l1 ≤ 32768 := m1
                    have HM := Aside0.mk m2
                    have Z := Aside0.mk z1
                    have hdn : (d : Int) < m := by omega
                    clear m1 m2 z1
                    go_wp2_with (fail)
                    go_loopg [136] l1 (fun kq v136 w' => ∃ (f : Nat), v136 = .int .i64 (f : Int) ∧ Aside0 (f + kq = l1) ∧ Aside0 (Ou w w' g3 (some ⟨gl, 0, none⟩) n ((d : Int) * 32768 + f)) ∧ Aside0 (Sz w' (g3 + 1) A1 l1 c1))
                    case atStart => exact ⟨0, rfl, ⟨by omega⟩, ⟨(S.out.up climb).le (by omega)⟩, ⟨Z.out.t3 (T3.ofBelow climb)⟩⟩
                    case round =>
                      clear S Z k0 k1
                      obtain ⟨f, rfl, hf, S, Z⟩ := hrel
                      by_cases hfl : f < l1
                      · obtain ⟨ad, yn, hA, cy, y1⟩ := Z.out.at_ hfl
                        subst hA
                        obtain ⟨v, cv, v0, v1⟩ := S.out.out.at_ (j := yn) (by omega)
                        have fv := S.out.out.free yn
                        have hv : v ≤ 30000000 := by have := HM.out; omega
                        have PV := Aside0.mk (show 0 ≤ v + 1 ∧ v + 1 ≤ (d : Int) * 32768 + f + 1 ∧ f + 1 ≤ l1 from ⟨by omega, by omega, hfl⟩)
                        clear v1
                        go_wp2
                        go_roundg (l1 - (f + 1))
                        case measure => have := hf.out; omega
                        case rel =>
                          have h1 := hf.out
                          obtain ⟨h2, h3, h4⟩ := PV.out
                          have h5 := HM.out
                          exact ⟨f + 1, by first | go_num | (congr 1; unfold wrap64; omega), ⟨by omega⟩, ⟨(S.out.put yn h2 h3).le (by omega)⟩, ⟨Z.out.put (a := ⟨g3, yn, none⟩) (Nat.lt_succ_self g3) _⟩⟩
                      · go_wp2
                        go_roundg (m - (d + 1))
                        case measure => have := hd.out; omega
                        case rel =>
                          have h1 := hf.out
                          have h2 := HM.out
                          have h3 := hd.out
                          exact ⟨d + 1, by go_num, ⟨by omega⟩, ⟨S.out.le (by omega)⟩⟩
                  · go_wp2
                    go_ret
                    have hd2 : (d : Int) ≤ 542 := by have := hd.out; omega
                    exact ⟨g3, rfl, (S.out.up climb).out.imp fun v hv => by omega, bl (S.out.up climb).bw⟩
end Go.Proofs.YtefhcgnamfnkbaaDoor.Pr
