/- squash.lengthsOf, exactly. -/
import Derived.Test.YtefhcgnamfnkbaaDoorSbh
import Derived.Test.YtefhcgnamfnkbaaDoorSqk
namespace Go.Proofs.YtefhcgnamfnkbaaDoor.Pr
open Go.RowKit Go.Proofs.YtefhcgnamfnkbaaDoorW.PrintWords Go.Proofs.YtefhcgnamfnkbaaDoorW.PrintLast Go.Proofs.YtefhcgnamfnkbaaDoorW.PrintMore
open Go.Proofs.YtefhcgnamfnkbaaDoor.Sb
set_option linter.unusedVariables false
set_option linter.unusedSimpArgs false
variable {w w' w0 : World}
/-- A block of N integers, each given. -/
def Ix (w : World) (g N : Nat) (F : Nat → Int) : Prop := ∃ cs : Array Value, w.heap[g]? = some (.cells cs 3 (0, 0)) ∧ cs.size = N ∧ ∀ j, j < N → cs[j]? = some (.int .i64 (F j))
variable {g N : Nat} {F F' : Nat → Int}
theorem Ix.up (h : Ix w g N F) (k : Below w.heap.size w w') : Ix w' g N F := by
  obtain ⟨cs, h1, h2⟩ := h
  exact ⟨cs, blk_below h1 k, h2⟩
theorem Ix.lt (h : Ix w g N F) : g < w.heap.size := by
  obtain ⟨cs, h1, h2⟩ := h
  exact blk_lt h1
theorem Ix.at_ (h : Ix w g N F) {j : Nat} (hj : j < N) : w.cell? ⟨g, j, none⟩ = some (.int .i64 (F j)) := by
  obtain ⟨cs, h1, h2, h3⟩ := h
  exact (blk_cell h1 j).trans (h3 j hj)
theorem Ix.free (h : Ix w g N F) (j : Nat) : w.frozen? ⟨g, j, none⟩ = false := by
  obtain ⟨cs, h1, h2⟩ := h
  exact blk_frozen h1 j
theorem Ix.put (h : Ix w g N F) (j : Nat) {v : Int} (e : ∀ i, i < N → F' i = if i = j then v else F i) : Ix (w.setCell ⟨g, j, none⟩ (.int .i64 v)) g N F' := by
  obtain ⟨cs, h1, h2, h3⟩ := h
  refine ⟨_, blk_put h1 j _ rfl, by simpa using h2, fun i hi => ?_⟩
  rw [e i hi]
  by_cases hij : j = i
  · subst hij
    rw [if_pos rfl]; simp [Array.getElem?_setIfInBounds, h2, hi]
  · rw [if_neg (fun e => hij e.symm)]; simp [Array.getElem?_setIfInBounds, hij, h3 i hi]
theorem Ix.far (h : Ix w g N F) {a : Addr} (hg : g ≠ a.block) (u : Value) : Ix (w.setCell a u) g N F := by
  obtain ⟨cs, h1, h2, h3⟩ := h
  exact ⟨cs, blk_far h1 hg u, h2, h3⟩
theorem Ix.cong (h : Ix w g N F) (e : ∀ i, i < N → F' i = F i) : Ix w g N F' := by
  obtain ⟨cs, h1, h2, h3⟩ := h
  exact ⟨cs, h1, h2, fun i hi => by rw [e i hi]; exact h3 i hi⟩
theorem Ix.made (w : World) (n : Nat) : Ix (w.alloc (.cells (madeCells #[.int .i64 0] n) 3)) w.heap.size n (fun _ => 0) := by
  refine ⟨_, blk_new w _, size_madeCells _ _, fun j hj => ?_⟩
  rw [← Array.getElem?_toList, toList_madeCells_one, List.getElem?_replicate, if_pos hj]
theorem Ix.iv {P : Int → Prop} (h : Ix w g N F) (hp : ∀ j, j < N → P (F j)) : Iv w g N P := by
  obtain ⟨cs, h1, h2, h3⟩ := h
  exact ⟨cs, h1, h2, fun j hj => ⟨_, h3 j hj, hp j hj⟩⟩
theorem Ix.ap (h : Ix w g N F) {q : Nat} (k : Ap w.heap.size q w w') (hg : g ≠ q) : Ix w' g N F := by
  obtain ⟨cs, h1, h2, h3⟩ := h
  exact ⟨cs, (k.block g (blk_lt h1) hg).trans h1, h2, h3⟩
/-- The tokens at g, one by one. -/
def TkY (w : World) (g : Nat) (ts : List Tk) : Prop := ∀ i t, ts[i]? = some t → w.cell? ⟨g, i * 4, none⟩ = some (.int .i64 t.y) ∧ w.cell? ⟨g, i * 4 + 1, none⟩ = some (.int .i64 t.a) ∧ w.cell? ⟨g, i * 4 + 2, none⟩ = some (.int .i64 t.x) ∧ w.cell? ⟨g, i * 4 + 3, none⟩ = some (.int .i64 t.b) ∧ GoodT t
theorem TkY.below {ts : List Tk} (h : TkY w g ts) (k : Below w.heap.size w w') : TkY w' g ts := fun i t hi => by
  obtain ⟨c0, c1, c2, c3, r⟩ := h i t hi
  exact ⟨pw_cell_below k c0, pw_cell_below k c1, pw_cell_below k c2, pw_cell_below k c3, r⟩
/-- The tokens' symbols. -/
def syms (ts : List Tk) : List Nat := ts.map fun t => t.y.toNat
theorem syms_len (ts : List Tk) : (syms ts).length = ts.length := by simp [syms]
/-- How often symbols have occurred in e tokens. -/
structure Cx (w0 w : World) (ys : List Nat) (e : Nat) : Prop where
  box : Ix w w0.heap.size 272 (fun j => ((ys.take e).count j : Int))
  bw : Below w0.heap.size w0 w
variable {ys : List Nat} {e : Nat}
theorem Cx.up (h : Cx w0 w ys e) (k : Below w.heap.size w w') : Cx w0 w' ys e := ⟨h.box.up k, below_step h.bw k⟩
theorem count_one {j y : Nat} (h : ¬ j = y) : [y].count j = 0 := List.count_eq_zero.2 (by simpa using h)
theorem take_count {ys : List Nat} {e y : Nat} (h : ys[e]? = some y) (j : Nat) : (((ys.take (e + 1)).count j : Nat) : Int) = if j = y then ((ys.take e).count y : Int) + 1 else ((ys.take e).count j : Int) := by
  rw [List.take_add_one, h, Option.toList_some, List.count_append]
  by_cases hj : j = y
  · subst hj; rw [if_pos rfl, List.count_singleton_self]; omega
  · rw [if_neg hj, count_one hj]; omega
theorem Cx.put (h : Cx w0 w ys e) {y : Nat} (hy : ys[e]? = some y) : Cx w0 (w.setCell ⟨w0.heap.size, y, none⟩ (.int .i64 (((ys.take e).count y : Int) + 1))) ys (e + 1) :=
  ⟨h.box.put y (fun i _ => take_count hy i), below_set h.bw (Nat.le_refl _)⟩
theorem cx_new (w : World) (ys : List Nat) : Cx w (w.alloc (.cells (madeCells #[.int .i64 0] 272) 3)) ys 0 := ⟨(Ix.made w 272).cong fun i _ => by simp, climb⟩
theorem Cx.keep {w1 : World} (h : Cx w0 w ys e) (hk : w1.heap[w0.heap.size]? = w.heap[w0.heap.size]?) (hb : Below w0.heap.size w0 w1) : Cx w0 w1 ys e := by
  obtain ⟨cs, h1, h2⟩ := h.box
  exact ⟨⟨cs, hk.trans h1, h2⟩, hb⟩
theorem Cx.lt (h : Cx w0 w ys e) : w0.heap.size < w.heap.size := h.box.lt
/-- The symbols in use, with how often each occurs. -/
structure Ux (w0 w : World) (B : Nat) (A : Option Addr) (U cap : Nat) (us : List (Nat × Nat)) : Prop where
  len : us.length = U
  own : ∃ xs, w.ownsRow B 134 2 (.slice A U cap) U xs ∧ ∀ i u, us[i]? = some u → xs[i * 2]? = some (.int .i64 (u.1 : Int)) ∧ xs[i * 2 + 1]? = some (.int .i64 (u.2 : Int)) ∧ u.1 < 272
  bw : Below w0.heap.size w0 w
variable {B U cap : Nat} {A : Option Addr} {us : List (Nat × Nat)}
theorem Ux.up (h : Ux w0 w B A U cap us) (k : Below w.heap.size w w') : Ux w0 w' B A U cap us := by
  obtain ⟨xs, ho, hx⟩ := h.own
  exact ⟨h.len, ⟨xs, own_move ho (fun i hi => k.block i (own_lt ho i hi)), hx⟩, below_step h.bw k⟩
theorem Ux.stored (h : Ux w0 w B A U cap us) (hB : w0.heap.size ≤ B) {xs : List Value} {w2 w1 : World} {gg cap1 : Nat} {y m : Nat} (ho : w.ownsRow B 134 2 (.slice A U cap) U xs) (hx : ∀ i u, us[i]? = some u → xs[i * 2]? = some (.int .i64 (u.1 : Int)) ∧ xs[i * 2 + 1]? = some (.int .i64 (u.2 : Int)) ∧ u.1 < 272) (hb : Below w.heap.size w w2) (hg : w2.grownBy w1 (Value.slice A U cap).ownBlock)
    (hw : w1.ownsRow B 134 2 (.slice (some ⟨gg, 0, none⟩) (U + 1) cap1) (U + 1) (xs ++ [.int .i64 (y : Int), .int .i64 (m : Int)])) (hy : y < 272) : Ux w0 w1 B (some ⟨gg, 0, none⟩) (U + 1) cap1 (us ++ [(y, m)]) ∧ ∀ k, k < w.heap.size → k < B → w1.heap[k]? = w.heap[k]? := by
  have hkeep : ∀ k, k < w.heap.size → k < B → w1.heap[k]? = w.heap[k]? := fun k h1 h2 => by
    rw [hg.block k (Nat.lt_of_lt_of_le h1 hb.size) (fun e => by have := own_base ho k e.symm; omega), hb.block k h1]
  have hsz := h.bw.size
  have hl : xs.length = U * 2 := ho.1
  have hlu := h.len
  refine ⟨⟨by rw [List.length_append, hlu]; rfl, ⟨_, hw, fun i u hi => ?_⟩, ⟨hg.os.trans (hb.os.trans h.bw.os), hg.tape.trans (hb.tape.trans h.bw.tape), hg.output.trans (hb.output.trans h.bw.output), Nat.le_trans hsz (Nat.le_trans hb.size hg.size), fun k hk => ?_⟩⟩, hkeep⟩
  · by_cases hiU : i < U
    · rw [List.getElem?_append_left (by omega)] at hi
      obtain ⟨e1, e2, r⟩ := hx i u hi
      exact ⟨by rw [List.getElem?_append_left (by omega)]; exact e1, by rw [List.getElem?_append_left (by omega)]; exact e2, r⟩
    · rw [List.getElem?_append_right (by omega)] at hi
      have hi0 : i = U := by
        have := (List.getElem?_eq_some_iff.1 hi).1
        simp at this
        omega
      subst hi0
      obtain rfl : (y, m) = u := by
        rw [hlu, Nat.sub_self] at hi
        simpa using hi
      refine ⟨?_, ?_, hy⟩
      · rw [List.getElem?_append_right (by omega), show i * 2 - xs.length = 0 from by omega]; rfl
      · rw [List.getElem?_append_right (by omega), show i * 2 + 1 - xs.length = 1 from by omega]; rfl
  · rw [hkeep k (by omega) (by omega), h.bw.block k hk]
theorem Ux.at_ (h : Ux w0 w B A U cap us) {i : Nat} (hi : i < U) : ∃ g y m, A = some ⟨g, 0, none⟩ ∧ us[i]? = some (y, m) ∧ w.cell? ⟨g, i * 2, none⟩ = some (.int .i64 (y : Int)) ∧ w.cell? ⟨g, i * 2 + 1, none⟩ = some (.int .i64 (m : Int)) ∧ y < 272 := by
  obtain ⟨xs, ho, hx⟩ := h.own
  have hlu := h.len
  obtain ⟨u, hu⟩ : ∃ u, us[i]? = some u := ⟨_, List.getElem?_eq_getElem (by omega)⟩
  obtain ⟨e1, e2, r⟩ := hx i u hu
  obtain ⟨g, cap', hv, hc, _⟩ := ho.form (by omega)
  simp only [Value.slice.injEq] at hv
  obtain ⟨rfl, _, rfl⟩ := hv
  have c1 := ho.cells (g := g) rfl _ _ e1
  have c2 := ho.cells (g := g) rfl _ _ e2
  have ea : ∀ j, (⟨g, 0, none⟩ : Addr).add j = ⟨g, j, none⟩ := fun j => by unfold Addr.add; by_cases h0 : j = 0 <;> simp [h0]
  rw [ea] at c1 c2
  exact ⟨g, u.1, u.2, rfl, hu, c1, c2, r⟩
theorem made_set_x (w : World) (y : Nat) : Ix (w.alloc (.cells ((madeCells #[.int .i64 0] 272).setIfInBounds y (.int .i64 1)) 3)) w.heap.size 272 (fun j => if j = y then 1 else 0) := by
  refine ⟨_, blk_new w _, by simp [size_madeCells], fun j hj => ?_⟩
  have h0 : (madeCells #[.int .i64 0] 272)[j]? = some (Value.int .i64 0) := by
    rw [← Array.getElem?_toList, toList_madeCells_one, List.getElem?_replicate, if_pos hj]
  by_cases hij : y = j
  · subst hij
    simp [Array.getElem?_setIfInBounds, size_madeCells, hj]
  · rw [Array.getElem?_setIfInBounds_ne hij]
    show _ = some (Value.int .i64 (if j = y then 1 else 0))
    rw [if_neg (fun e : j = y => hij e.symm)]; exact h0
/-- The lengths, counted up so far. -/
structure Ox (w0 w : World) (g3 : Nat) (A : Option Addr) (lv : List (Nat × List Nat)) (zs : List Nat) : Prop where
  lv : Rx w (g3 + 1) A (2 ^ 15) lv
  out : Ix w g3 272 (fun j => (zs.count j : Int))
  bw : Below w0.heap.size w0 w
  hg : w0.heap.size ≤ g3
variable {g3 : Nat} {lv : List (Nat × List Nat)} {zs : List Nat}
theorem Ox.up (h : Ox w0 w g3 A lv zs) (k : Below w.heap.size w w') : Ox w0 w' g3 A lv zs := ⟨h.lv.up k, h.out.up k, below_step h.bw k, h.hg⟩
theorem Ox.put (h : Ox w0 w g3 A lv zs) (y : Nat) : Ox w0 (w.setCell ⟨g3, y, none⟩ (.int .i64 ((zs.count y : Int) + 1))) g3 A lv (zs ++ [y]) := by
  refine ⟨?_, h.out.put y (fun i _ => ?_), below_set h.bw h.hg, h.hg⟩
  · rcases h.lv with hn | ⟨g, cs, h1, h2, h3, h4⟩
    · exact .inl hn
    · obtain ⟨cs', k1, _⟩ := h.out
      have hne : g ≠ g3 := fun e => by
        subst e
        rw [h2] at k1
        simp only [Option.some.injEq, Obj.cells.injEq] at k1
        exact absurd k1.2.1 (by decide)
      refine .inr ⟨g, cs, h1, blk_far h2 (p := ⟨g3, y, none⟩) hne _, h3, fun i b hi => ?_⟩
      obtain ⟨A', l, c, e1, e2, hz, hl⟩ := h4 i b hi
      exact ⟨A', l, c, e1, e2, hz.put (a := ⟨g3, y, none⟩) (Nat.lt_succ_self g3) _, hl⟩
  · rw [List.count_append]
    by_cases hj : i = y
    · subst hj; rw [if_pos rfl, List.count_singleton_self]; omega
    · rw [if_neg hj, count_one hj]; omega
theorem Lx.stored' {N n cap M : Nat} {A : Option Addr} {bs : List (Nat × List Nat)} {xs : List Value} {w2 w1 : World} {gg cap1 : Nat} {b : Nat × List Nat} {A' : Option Addr} {l c : Nat} (hn : bs.length = n) (ho : w.ownsRow B 137 2 (.slice A n cap) n xs) (hx : ∀ i b, bs[i]? = some b → ∃ (A' : Option Addr) (l c : Nat), xs[i * 2]? = some (.int .i64 (b.1 : Int)) ∧ xs[i * 2 + 1]? = some (.slice A' l c) ∧ Sx w N A' l c b.2 ∧ l ≤ M ∧ b.1 ≤ 1000000 * M)
    (hb : Below w.heap.size w w2) (hg : w2.grownBy w1 (Value.slice A n cap).ownBlock) (hw : w1.ownsRow B 137 2 (.slice (some ⟨gg, 0, none⟩) (n + 1) cap1) (n + 1) (xs ++ [.int .i64 (b.1 : Int), .slice A' l c])) (hz : Sx w N A' l c b.2) (hl : l ≤ M) (hm : b.1 ≤ 1000000 * M) : Lx w1 B N (some ⟨gg, 0, none⟩) cap1 M (bs ++ [b]) := by
  subst hn
  exact Lx.stored ho hx hb hg hw hz hl hm
theorem Lx.parts {N n cap M : Nat} {bs : List (Nat × List Nat)} (h : Lx w B N A cap M bs) (hn : bs.length = n) : ∃ xs, w.ownsRow B 137 2 (.slice A n cap) n xs ∧ ∀ i b, bs[i]? = some b → ∃ (A' : Option Addr) (l c : Nat), xs[i * 2]? = some (.int .i64 (b.1 : Int)) ∧ xs[i * 2 + 1]? = some (.slice A' l c) ∧ Sx w N A' l c b.2 ∧ l ≤ M ∧ b.1 ≤ 1000000 * M := by
  subst hn; exact h
theorem lx_all {N M : Nat} {bs : List (Nat × List Nat)} {xs : List Value} (h : ∀ i b, bs[i]? = some b → ∃ (A' : Option Addr) (l c : Nat), xs[i * 2]? = some (.int .i64 (b.1 : Int)) ∧ xs[i * 2 + 1]? = some (.slice A' l c) ∧ Sx w N A' l c b.2 ∧ l ≤ M ∧ b.1 ≤ 1000000 * M) (k : Below w.heap.size w w') : ∀ i b, bs[i]? = some b → ∃ (A' : Option Addr) (l c : Nat), xs[i * 2]? = some (.int .i64 (b.1 : Int)) ∧ xs[i * 2 + 1]? = some (.slice A' l c) ∧ Sx w' N A' l c b.2 ∧ l ≤ M ∧ b.1 ≤ 1000000 * M := fun i b hi => by
  obtain ⟨A', l, c, e1, e2, hz, hl⟩ := h i b hi
  exact ⟨A', l, c, e1, e2, hz.t3 (T3.ofBelow k), hl⟩
theorem sort_xn {N n cap M : Nat} {bs : List (Nat × List Nat)} (w : World) (h : Lx w B N A cap M bs) (hl : bs.length = n) (h0 : 0 < n) (hn : n ≤ 1000000) (hM : M ≤ 1000000000) :
    Calls Tryd.prog 74 #[.slice A n cap, .func (.func 75) #[] #[]] w fun r w' => r = .returned (.tuple #[]) ∧ ∃ g cs, A = some ⟨g, 0, none⟩ ∧ B ≤ g ∧ w.heap[g]? = some (.cells cs 137 (0, 0)) ∧ Ap w.heap.size g w w' ∧ Rx w' N A M (sortB bs) := by
  subst hl
  exact sort_x w h h0 hn hM
theorem used_single {us : List (Nat × Nat)} {y m : Nat} (h : us[0]? = some (y, m)) (hl : us.length = 1) (j : Nat) : ((lensOf us j : Nat) : Int) = if j = y then 1 else 0 := by
  match us, hl, h with
  | [u], _, h =>
    obtain rfl : u = (y, m) := by simpa using h
    unfold lensOf
    rw [if_pos (show [(y, m)].length = 1 from rfl)]
    show (((if some y = some j then 1 else 0 : Nat)) : Int) = _
    by_cases hj : j = y
    · rw [if_pos (by rw [hj]), if_pos hj]; rfl
    · rw [if_neg (fun e => hj (Option.some.inj e).symm), if_neg hj]; rfl
end Go.Proofs.YtefhcgnamfnkbaaDoor.Pr
