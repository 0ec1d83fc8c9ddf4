/- squash.newDecoder, exactly. -/
import Derived.Test.YtefhcgnamfnkbaaDoorSbo
import Derived.Test.YtefhcgnamfnkbaaDoorSqd
namespace Go.Proofs.YtefhcgnamfnkbaaDoor.Sb
/-- The first e symbols' part of length m. -/
def symsOf (ln : Nat → Nat) (m : Nat) : Nat → List Nat
  | 0 => []
  | e + 1 => symsOf ln m e ++ (if ln e = m then [e] else [])
theorem symsOf_yes {ln : Nat → Nat} {m e : Nat} (h : ln e = m) : symsOf ln m (e + 1) = symsOf ln m e ++ [e] := by
  show symsOf ln m e ++ (if ln e = m then [e] else []) = _
  rw [if_pos h]
theorem symsOf_no {ln : Nat → Nat} {m e : Nat} (h : ¬ ln e = m) : symsOf ln m (e + 1) = symsOf ln m e := by
  show symsOf ln m e ++ (if ln e = m then [e] else []) = _
  rw [if_neg h, List.append_nil]
theorem symsOf_length (ln : Nat → Nat) (m : Nat) : ∀ e, (symsOf ln m e).length = cntL ln m e
  | 0 => rfl
  | e + 1 => by
    by_cases h : ln e = m
    · rw [symsOf_yes h, cntL_yes h, List.length_append, symsOf_length ln m e]; rfl
    · rw [symsOf_no h, cntL_no h, symsOf_length ln m e]
theorem symsOf_lt {ln : Nat → Nat} {m y : Nat} : ∀ {e : Nat}, y ∈ symsOf ln m e → y < e
  | 0, h => by simp [symsOf] at h
  | e + 1, h => by
    by_cases h2 : ln e = m
    · rw [symsOf_yes h2] at h
      rcases List.mem_append.1 h with h | h
      · have := symsOf_lt h; omega
      · rw [List.mem_singleton.1 h]; omega
    · rw [symsOf_no h2] at h
      have := symsOf_lt h; omega
theorem symsOf_at {ln : Nat → Nat} {m y : Nat} (hy : ln y = m) : ∀ {e : Nat}, y < e → (symsOf ln m e)[cntL ln m y]? = some y
  | 0, h => by omega
  | e + 1, h => by
    have hl := symsOf_length ln m e
    by_cases he : y = e
    · subst he
      rw [symsOf_yes hy, List.getElem?_append_right (by omega), hl, Nat.sub_self]; rfl
    · have ih := symsOf_at hy (e := e) (by omega)
      have hlt := (List.getElem?_eq_some_iff.1 ih).1
      by_cases h2 : ln e = m
      · rw [symsOf_yes h2, List.getElem?_append_left hlt]; exact ih
      · rw [symsOf_no h2]; exact ih
/-- The symbols in the order of their codes, up to length m. -/
def listTo (ln : Nat → Nat) : Nat → List Nat
  | 0 => []
  | n + 1 => listTo ln n ++ symsOf ln (n + 1) 272
theorem listTo_length (ln : Nat → Nat) (n : Nat) : (listTo ln (n + 1)).length = (listTo ln n).length + ofLen ln (n + 1) := by
  show (listTo ln n ++ symsOf ln (n + 1) 272).length = _
  rw [List.length_append, symsOf_length]
  unfold ofLen
  rw [if_neg (by omega)]
theorem listTo_lt {ln : Nat → Nat} {y : Nat} : ∀ {n : Nat}, y ∈ listTo ln n → y < 272
  | 0, h => by simp [listTo] at h
  | n + 1, h => by
    rcases List.mem_append.1 (show y ∈ listTo ln n ++ symsOf ln (n + 1) 272 from h) with h | h
    · exact listTo_lt h
    · exact symsOf_lt h
theorem listTo_le (ln : Nat → Nat) : ∀ n, (listTo ln n).length ≤ 272 * n
  | 0 => by simp [listTo]
  | n + 1 => by
    have := listTo_le ln n
    have := ofLen_le ln (n + 1)
    rw [listTo_length]; omega
theorem listTo_at {ln : Nat → Nat} {y : Nat} : ∀ {n m : Nat}, ln y = m → 1 ≤ m → m ≤ n → y < 272 → (listTo ln n)[(listTo ln (m - 1)).length + cntL ln m y]? = some y
  | 0, m, h, h1, h2, h3 => by omega
  | n + 1, m, h, h1, h2, h3 => by
    by_cases hm : m = n + 1
    · subst hm
      show (listTo ln n ++ symsOf ln (n + 1) 272)[_]? = _
      rw [Nat.add_sub_cancel, List.getElem?_append_right (by omega), Nat.add_sub_cancel_left]
      exact symsOf_at h h3
    · have ih := listTo_at (n := n) h h1 (by omega) h3
      show (listTo ln n ++ symsOf ln (n + 1) 272)[_]? = _
      rw [List.getElem?_append_left (List.getElem?_eq_some_iff.1 ih).1]; exact ih
end Go.Proofs.YtefhcgnamfnkbaaDoor.Sb
namespace Go.Proofs.YtefhcgnamfnkbaaDoor.Pr
open Go.RowKit Go.Proofs.YtefhcgnamfnkbaaDoorW.PrintWords Go.Proofs.YtefhcgnamfnkbaaDoorW.PrintLast Go.Proofs.YtefhcgnamfnkbaaDoorW.PrintMore
open Go.Proofs.YtefhcgnamfnkbaaDoor.Sb
set_option linter.unusedVariables false
set_option linter.unusedSimpArgs false
/-- The decoder being made at p. -/
structure Nx (w0 w : World) (p n : Nat) (A : Option Addr) (cap : Nat) (F T : Nat → Nat) (zs : List Nat) : Prop where
  box : ∃ cs : Array Value, w.heap[p]? = some (.cells cs 145 (0, 0)) ∧ cs.size = 33 ∧ cs[32]? = some (.slice A n cap) ∧ (∀ i, i < 16 → cs[i]? = some (.int .i64 (F i : Int))) ∧ (∀ i, i < 16 → cs[16 + i]? = some (.int .i64 (T i : Int)))
  own : w.ownsRow (p + 1) 3 1 (.slice A n cap) n (nv zs)
  len : zs.length = n
  bw : Below w0.heap.size w0 w
  np : w0.heap.size ≤ p
variable {w0 w w' : World} {p n : Nat} {A : Option Addr} {cap : Nat} {F T F' T' : Nat → Nat} {zs : List Nat}
theorem Nx.cl (h : Nx w0 w p n A cap F T zs) : w.cell? ⟨p, 32, none⟩ = some (.slice A n cap) := by
  obtain ⟨cs, h1, h2, h3, h4, h5⟩ := h.box
  exact (blk_cell h1 32).trans h3
theorem Nx.free (h : Nx w0 w p n A cap F T zs) (j : Nat) : w.frozen? ⟨p, j, none⟩ = false := by
  obtain ⟨cs, h1, h2, h3, h4, h5⟩ := h.box
  exact blk_frozen h1 j
theorem Nx.cf (h : Nx w0 w p n A cap F T zs) {i : Nat} (hi : i < 16) : w.cell? ⟨p, i, none⟩ = some (.int .i64 (F i : Int)) := by
  obtain ⟨cs, h1, h2, h3, h4, h5⟩ := h.box
  exact (blk_cell h1 i).trans (h4 i hi)
theorem Nx.ct (h : Nx w0 w p n A cap F T zs) {i : Nat} (hi : i < 16) : w.cell? ⟨p, 16 + i, none⟩ = some (.int .i64 (T i : Int)) := by
  obtain ⟨cs, h1, h2, h3, h4, h5⟩ := h.box
  exact (blk_cell h1 (16 + i)).trans (h5 i hi)
theorem Nx.set1 (h : Nx w0 w p n A cap F T zs) {i : Nat} {v : Nat} (hi : i < 16) (hF : ∀ j, j < 16 → F' j = if j = i then v else F j) : Nx w0 (w.setCell ⟨p, i, none⟩ (.int .i64 (v : Int))) p n A cap F' T zs := by
  obtain ⟨cs, h1, h2, h3, h4, h5⟩ := h.box
  have ho := h.own
  refine ⟨⟨cs.setIfInBounds i (.int .i64 (v : Int)), blk_put h1 i _ rfl, by simp [h2], ?_, fun j hj => ?_, fun j hj => ?_⟩, own_move ho (fun k hk => ?_), h.len, below_set h.bw h.np, h.np⟩
  · simp [Array.getElem?_setIfInBounds, show ¬ i = 32 from by omega, h3]
  · rw [hF j hj]
    by_cases hij : i = j
    · subst hij
      rw [if_pos rfl]; simp [Array.getElem?_setIfInBounds, h2, show i < 33 from by omega]
    · rw [if_neg (fun e => hij e.symm)]; simp [Array.getElem?_setIfInBounds, hij, h4 j hj]
  · simp [Array.getElem?_setIfInBounds, show ¬ i = 16 + j from by omega, h5 j hj]
  · have hB := own_base ho k hk
    exact Below.heap_setCell w ⟨p, i, none⟩ _ k (by show k ≠ p; omega)
theorem Nx.set2 (h : Nx w0 w p n A cap F T zs) {i : Nat} {v : Nat} (hi : i < 16) (hT : ∀ j, j < 16 → T' j = if j = i then v else T j) : Nx w0 (w.setCell ⟨p, 16 + i, none⟩ (.int .i64 (v : Int))) p n A cap F T' zs := by
  obtain ⟨cs, h1, h2, h3, h4, h5⟩ := h.box
  have ho := h.own
  refine ⟨⟨cs.setIfInBounds (16 + i) (.int .i64 (v : Int)), blk_put h1 (16 + i) _ rfl, by simp [h2], ?_, fun j hj => ?_, fun j hj => ?_⟩, own_move ho (fun k hk => ?_), h.len, below_set h.bw h.np, h.np⟩
  · simp [Array.getElem?_setIfInBounds, show ¬ 16 + i = 32 from by omega, h3]
  · simp [Array.getElem?_setIfInBounds, show ¬ 16 + i = j from by omega, h4 j hj]
  · rw [hT j hj]
    by_cases hij : i = j
    · subst hij
      rw [if_pos rfl]; simp [Array.getElem?_setIfInBounds, h2, show 16 + i < 33 from by omega]
    · rw [if_neg (fun e => hij e.symm)]; simp [Array.getElem?_setIfInBounds, hij, h5 j hj]
  · have hB := own_base ho k hk
    exact Below.heap_setCell w ⟨p, 16 + i, none⟩ _ k (by show k ≠ p; omega)
theorem Nx.stored (h : Nx w0 w p n A cap F T zs) {w2 w1 : World} {gg cap1 : Nat} {y : Nat} (hb : Below w.heap.size w w2) (hg : w2.grownBy w1 (Value.slice A n cap).ownBlock)
    (hw : w1.ownsRow (p + 1) 3 1 (.slice (some ⟨gg, 0, none⟩) (n + 1) cap1) (n + 1) (nv zs ++ [.int .i64 (y : Int)])) :
    Nx w0 (w1.setCell ⟨p, 32, none⟩ (.slice (some ⟨gg, 0, none⟩) (n + 1) cap1)) p (n + 1) (some ⟨gg, 0, none⟩) cap1 F T (zs ++ [y]) := by
  obtain ⟨cs, h1, h2, h3, h4, h5⟩ := h.box
  have ho := h.own
  have hn : ∀ i, (Value.slice A n cap).ownBlock = some i → p + 1 ≤ i := own_base ho
  have hk : w1.heap[p]? = some (.cells cs 145 (0, 0)) := by
    rw [hg.block p (Nat.lt_of_lt_of_le (blk_lt h1) hb.size) (fun e => by have := hn p e.symm; omega)]
    exact blk_below h1 hb
  have hw2 : w1.ownsRow (p + 1) 3 1 (.slice (some ⟨gg, 0, none⟩) (n + 1) cap1) (n + 1) (nv (zs ++ [y])) := by rw [← nv_app]; exact hw
  refine ⟨⟨cs.setIfInBounds 32 (.slice (some ⟨gg, 0, none⟩) (n + 1) cap1), blk_put hk 32 _ rfl, by simp [h2], ?_, fun j hj => ?_, fun j hj => ?_⟩, own_move hw2 (fun k hk => ?_), by rw [List.length_append, h.len]; rfl, ⟨?_, ?_, ?_, ?_, fun i hi => ?_⟩, h.np⟩
  · simp [Array.getElem?_setIfInBounds, h2]
  · simp [Array.getElem?_setIfInBounds, show ¬ 32 = j from by omega, h4 j hj]
  · simp [Array.getElem?_setIfInBounds, show ¬ 32 = 16 + j from by omega, h5 j hj]
  · have hB := own_base hw k hk
    exact Below.heap_setCell w1 ⟨p, 32, none⟩ _ k (by show k ≠ p; omega)
  · exact hg.os.trans (hb.os.trans h.bw.os)
  · exact hg.tape.trans (hb.tape.trans h.bw.tape)
  · exact hg.output.trans (hb.output.trans h.bw.output)
  · rw [World.size_setCell]; exact Nat.le_trans h.bw.size (Nat.le_trans hb.size hg.size)
  · have hnp := h.np
    have hsz := h.bw.size
    have hsz2 := hb.size
    rw [Below.heap_setCell w1 ⟨p, 32, none⟩ _ i (by show i ≠ p; omega), hg.block i (by omega) (fun e => by have := hn i e.symm; omega), hb.block i (by omega), h.bw.block i hi]
theorem Nx.kept (h : Nx w0 w p n A cap F T zs) {w2 w1 : World} {o : Obj} (hb : Below w.heap.size w w2) (hg : w2.grownBy w1 (Value.slice A n cap).ownBlock) (hk : w.heap[p]? = some o) : w1.heap[p]? = some o := by
  rw [hg.block p (Nat.lt_of_lt_of_le (blk_lt hk) hb.size) (fun e => by have := own_base h.own p e.symm; omega)]
  exact blk_below hk hb
theorem Nx.up (h : Nx w0 w p n A cap F T zs) (k : Below w.heap.size w w') : Nx w0 w' p n A cap F T zs := by
  obtain ⟨cs, h1, h2⟩ := h.box
  exact ⟨⟨cs, blk_below h1 k, h2⟩, own_move h.own (fun i hi => k.block i (own_lt h.own i hi)), h.len, below_step h.bw k, h.np⟩
theorem Nx.cong (h : Nx w0 w p n A cap F T zs) (e1 : ∀ i, i < 16 → F' i = F i) (e2 : ∀ i, i < 16 → T' i = T i) : Nx w0 w p n A cap F' T' zs := by
  obtain ⟨cs, h1, h2, h3, h4, h5⟩ := h.box
  exact ⟨⟨cs, h1, h2, h3, fun i hi => by rw [e1 i hi]; exact h4 i hi, fun i hi => by rw [e2 i hi]; exact h5 i hi⟩, h.own, h.len, h.bw, h.np⟩
/-- The decoder read: the tables of the lengths ln, the symbols in the order of their codes. -/
structure Dx (w : World) (p q : Nat) (ln : Nat → Nat) (A : Option Addr) (n c : Nat) : Prop where
  cf : ∀ i, i < 16 → w.cell? ⟨p, i, none⟩ = some (.int .i64 (fstC ln i : Int))
  ct : ∀ i, i < 16 → w.cell? ⟨p, 16 + i, none⟩ = some (.int .i64 ((listTo ln (i - 1)).length : Int))
  cl : w.cell? ⟨p, 32, none⟩ = some (.slice A n c)
  el : ∀ (j y : Nat), (listTo ln 15)[j]? = some y → ∃ ad, A = some ad ∧ ad.block ≠ q ∧ w.cell? (ad.add j) = some (.int .i64 (y : Int))
  ne : p ≠ q
  len : (listTo ln 15).length = n
theorem Dx.move {q c : Nat} {ln : Nat → Nat} (h : Dx w p q ln A n c) (k : Ap w.heap.size q w w') : Dx w' p q ln A n c :=
  ⟨fun i hi => cell_kept (h.cf i hi) k h.ne, fun i hi => cell_kept (h.ct i hi) k h.ne, cell_kept h.cl k h.ne, fun j y hj => by
    obtain ⟨ad, e, hb, hc⟩ := h.el j y hj
    exact ⟨ad, e, hb, cell_kept hc k (by rw [add_block]; exact hb)⟩, h.ne, h.len⟩
theorem Nx.read {ln : Nat → Nat} (h : Nx w0 w p n A cap (fstC ln) (fun i => (listTo ln (i - 1)).length) (listTo ln 15)) : p < w.heap.size ∧ ∀ q, (q < w0.heap.size ∨ w.heap.size ≤ q) → Dx w p q ln A n cap := by
  obtain ⟨cs, h1, h2, h3, h4, h5⟩ := h.box
  have ho := h.own
  refine ⟨blk_lt h1, fun q hq => ⟨fun i hi => (blk_cell h1 i).trans (h4 i hi), fun i hi => (blk_cell h1 (16 + i)).trans (h5 i hi), (blk_cell h1 32).trans h3, fun j y hj => ?_, by have := h.np; have := blk_lt h1; omega, h.len⟩⟩
  have hjn : j < n := by rw [← h.len]; exact (List.getElem?_eq_some_iff.1 hj).1
  obtain ⟨g', cap', hv, _, hlt'⟩ := ho.form (by omega)
  simp only [Value.slice.injEq] at hv
  obtain ⟨rfl, _, rfl⟩ := hv
  have hg' := own_base ho g' (by simp [Value.ownBlock])
  have hnp := h.np
  exact ⟨⟨g', 0, none⟩, rfl, by show g' ≠ q; omega, ho.cells (g := g') rfl j _ (nv_at hj)⟩
set_option maxHeartbeats 4000000 in
set_option maxRecDepth 100000 in
theorem newDecoder_x (g : Nat) (ln : Nat → Nat) (w : World) (h : Ix w g 272 (fun j => (ln j : Int))) :
    Calls Tryd.prog 34 #[.slice (some ⟨g, 0, none⟩) 272 272] w fun r w' => ∃ p A n c, r = .returned (.pointer (some ⟨p, 0, none⟩)) ∧ Below w.heap.size w w' ∧ w.heap.size ≤ p ∧ p < w'.heap.size ∧ ∀ q, (q < w.heap.size ∨ w'.heap.size ≤ q) → Dx w' p q ln A n c := by
  have H := Aside0.mk h
  have hlt := h.lt
  clear h
  go_enter Tryd.func34, Tryd.ntmps34
  go_wp2_with (fail)
  have z0 : Nx w (w.alloc (.cells #[.int .i64 0, .int .i64 0, .int .i64 0, .int .i64 0, .int .i64 0, .int .i64 0, .int .i64 0, .int .i64 0, .int .i64 0, .int .i64 0, .int .i64 0, .int .i64 0, .int .i64 0, .int .i64 0, .int .i64 0, .int .i64 0, .int .i64 0, .int .i64 0, .int .i64 0, .int .i64 0, .int .i64 0, .int .i64 0, .int .i64 0, .int .i64 0, .int .i64 0, .int .i64 0, .int .i64 0, .int .i64 0, .int .i64 0, .int .i64 0, .int .i64 0, .int .i64 0, .slice none 0 0] 145)) w.heap.size 0 none 0 (fun i => if i < 1 then fstC ln i else 0) (fun i => if i < 1 then (listTo ln (i - 1)).length else 0) [] := by
    have hz : ∀ (G : Nat → Nat), G 0 = 0 → ∀ i, (if i < 1 then G i else 0) = 0 := fun G h0 i => by
      by_cases hi : i < 1
      · obtain rfl : i = 0 := by omega
        rw [if_pos hi, h0]
      · rw [if_neg hi]
    refine ⟨⟨_, blk_new w _, rfl, rfl, fun i hi => ?_, fun i hi => ?_⟩, World.ownsRow_nil _ _ _ _, rfl, climb, Nat.le_refl _⟩
    · rw [hz (fstC ln) rfl i]
      have : i = 0 ∨ i = 1 ∨ i = 2 ∨ i = 3 ∨ i = 4 ∨ i = 5 ∨ i = 6 ∨ i = 7 ∨ i = 8 ∨ i = 9 ∨ i = 10 ∨ i = 11 ∨ i = 12 ∨ i = 13 ∨ i = 14 ∨ i = 15 := by omega
      rcases this with rfl | rfl | rfl | rfl | rfl | rfl | rfl | rfl | rfl | rfl | rfl | rfl | rfl | rfl | rfl | rfl <;> rfl
    · rw [hz (fun i => (listTo ln (i - 1)).length) rfl i]
      have : i = 0 ∨ i = 1 ∨ i = 2 ∨ i = 3 ∨ i = 4 ∨ i = 5 ∨ i = 6 ∨ i = 7 ∨ i = 8 ∨ i = 9 ∨ i = 10 ∨ i = 11 ∨ i = 12 ∨ i = 13 ∨ i = 14 ∨ i = 15 := by omega
      rcases this with rfl | rfl | rfl | rfl | rfl | rfl | rfl | rfl | rfl | rfl | rfl | rfl | rfl | rfl | rfl | rfl <;> rfl
  have Z := Aside0.mk z0
  clear z0
  go_loopg [4, 5] 15 (fun kq v4 v5 w' => ∃ (m : Nat) (c : Nat) (n : Nat) (A : Option Addr) (cap : Nat) (zs : List Nat), v4 = .int .i64 (c : Int) ∧ v5 = .int .i64 (m : Int) ∧ m + kq = 16 ∧ 1 ≤ m ∧ (c : Int) ≤ 20000000 ∧ n ≤ 272 * (m - 1) ∧ Aside0 (2 * c = fstC ln m ∧ zs = listTo ln (m - 1)) ∧ Aside0 (Nx w w' w.heap.size n A cap (fun i => if i < m then fstC ln i else 0) (fun i => if i < m then (listTo ln (i - 1)).length else 0) zs))
  case atStart => exact ⟨1, 0, 0, none, 0, [], rfl, rfl, by omega, by omega, by omega, by omega, ⟨rfl, rfl⟩, Z⟩
  case round =>
    clear Z
    obtain ⟨m, c, n, A, cap, zs, rfl, rfl, hk, hm1, hc2, hn, E, S⟩ := hrel
    have hc0 : 0 ≤ (c : Int) := by omega
    by_cases hm : m ≤ 15
    · obtain ⟨g1, hg1⟩ : ∃ g1, gk = g1 + 1 := ⟨gk - 1, by omega⟩
      have HG := Aside0.mk hg1
      clear hg1
      have HL := Aside0.mk S.out.len
      have k0 := S.out.cl
      have k1 := S.out.cf (i := m) (by omega)
      generalize (if m < m then fstC ln m else 0) = x1 at k1
      have k2 := S.out.ct (i := m) (by omega)
      generalize (if m < m then (listTo ln (m - 1)).length else 0) = x2 at k2
      have f1 := S.out.free m
      have f2 := S.out.free (16 + m)
      have qm : decide ((m : Int) ≤ 15) = true := decide_eq_true (by omega)
      go_upto_region 7 with (fail)
      go_region
      go_wp2
      have hS2 := (((S.out.set1 (i := m) (v := c * 2) (F' := fun i => if i < m + 1 then fstC ln i else 0) (by omega) (fun j hj => by
        by_cases hjm : j = m
        · subst hjm; rw [if_pos (by omega), if_pos rfl, ← E.out.1]; omega
        · rw [if_neg hjm]
          by_cases h3 : j < m
          · rw [if_pos (by omega), if_pos h3]
          · rw [if_neg (by omega), if_neg h3])).set2 (i := m) (v := n) (T' := fun i => if i < m + 1 then (listTo ln (i - 1)).length else 0) (by omega) (fun j hj => by
        by_cases hjm : j = m
        · subst hjm; rw [if_pos (by omega), if_pos rfl, ← E.out.2, HL.out]
        · rw [if_neg hjm]
          by_cases h3 : j < m
          · rw [if_pos (by omega), if_pos h3]
          · rw [if_neg (by omega), if_neg h3])))
      rw [show ((c * 2 : Nat) : Int) = (c : Int) * 2 by omega] at hS2
      have S2 := Aside0.mk (hS2.up climb)
      clear hS2
      go_loopg [4, 34] 272 (fun kq v4 v34 w' => ∃ (e : Nat) (c2 : Nat) (n2 : Nat) (A2 : Option Addr) (cap2 : Nat) (zs2 : List Nat), v4 = .int .i64 (c2 : Int) ∧ v34 = .int .i64 (e : Int) ∧ e + kq = 272 ∧ (c2 : Int) ≤ 2 * c + e ∧ n2 ≤ n + e ∧ Aside0 (c2 = fstC ln m + cntL ln m e ∧ zs2 = listTo ln (m - 1) ++ symsOf ln m e) ∧ Aside0 (Nx w w' w.heap.size n2 A2 cap2 (fun i => if i < m + 1 then fstC ln i else 0) (fun i => if i < m + 1 then (listTo ln (i - 1)).length else 0) zs2))
      case atStart => exact ⟨0, c * 2, n, A, cap, zs, by first | (congr 1; done) | (congr 1; omega), rfl, by omega, by omega, by omega, ⟨by rw [← E.out.1]; show c * 2 = 2 * c + 0; omega, by rw [← E.out.2]; exact (List.append_nil _).symm⟩, ⟨S2.out.up climb⟩⟩
      case round =>
        clear S2 k0 k1 k2 f1 f2 S E HL
        obtain ⟨e, c2, n2, A2, cap2, zs2, rfl, rfl, hk2, hd1, hn2, E, S⟩ := hrel
        by_cases he : e < 272
        · obtain ⟨g2, hg2⟩ : ∃ g2, gk = g2 + 1 := ⟨gk - 1, by omega⟩
          have HG2 := Aside0.mk hg2
          clear hg2
          have cv := (H.out.up (bl S.out.bw)).at_ he
          obtain ⟨v, hv0⟩ : ∃ v : Int, v = (ln e : Int) := ⟨_, rfl⟩
          rw [← hv0] at cv
          have HV0 := Aside0.mk hv0
          clear hv0
          by_cases hv : v = (m : Int)
          · have qv : (v == (m : Int)) = true := beq_iff_eq.2 hv
            have HYE := Aside0.mk (show ln e = m by have := HV0.out; omega)
            clear hv
            obtain ⟨i0, hi0, hz0, hz1, hz2⟩ := info_parts int_info
            have HO := Aside0.mk S.out.own
            obtain ⟨xs, hxs⟩ : ∃ xs, xs = nv zs2 := ⟨_, rfl⟩
            rw [← hxs] at HO
            have HXS := Aside0.mk hxs
            clear hxs
            have d0 := S.out.cl
            have fr := S.out.free 32
            obtain ⟨cs, b1, b2⟩ := S.out.box
            have HB := Aside0.mk b1
            have HB2 := Aside0.mk b2.2.1
            clear b1 b2
            go_wp2_with (first | (at_builtin; refine wpList_append_lies _ rfl _ _ _ (by rfl) (w.heap.size + 1) 3 i0 _ 1 8 Tryd.underlying63 hi0 hz0 hz1 hz2 rfl (by omega) (.slice A2 n2 cap2) n2 xs (by rfl) (HO.out.alloc _) ⟨wr.heap.size, 0, none⟩ 1 1 [.int .i64 (e : Int)] (by rfl) (by rfl) (World.news_of_block (cs := #[.int .i64 (e : Int)]) (t := 3) (fr := (0, 0)) (heap_alloc_new wr _)) (by simp [Value.oneCell']) (by omega) (by simp only [maxLen]; omega) (by omega) (by simp only [World.size_alloc]; have := S.out.bw.size; omega) (wr.heap.size + 1) (by simp) ?_; intro gg cap1 w1 hown1 hgrow hat hlt1; have hk1 := Aside0.mk (S.out.kept climb hgrow HB.out); have e0 := (blk_cell hk1.out 32).trans HB2.out; have e1 := blk_frozen hk1.out 32))
            go_roundg g2
            case measure => have := HG2.out; omega
            case rel => have := HG2.out; have hown2 := hown1; rw [HXS.out] at hown2; exact ⟨e + 1, c2 + 1, n2 + 1, _, _, zs2 ++ [e], by go_num, by go_num, by omega, by omega, by omega, ⟨by rw [E.out.1, cntL_yes HYE.out, Nat.add_assoc], by rw [E.out.2, symsOf_yes HYE.out, List.append_assoc]⟩, ⟨S.out.stored climb hgrow hown2⟩⟩
          · have qv : (v == (m : Int)) = false := beq_eq_false_iff_ne.2 hv
            have HNE := Aside0.mk (show ¬ ln e = m by have := HV0.out; omega)
            clear hv
            go_wp2_with (fail)
            go_roundg g2
            case measure => have := HG2.out; omega
            case rel => have := HG2.out; exact ⟨e + 1, c2, n2, _, _, zs2, rfl, by go_num, by omega, by omega, by omega, ⟨by rw [cntL_no HNE.out]; exact E.out.1, by rw [symsOf_no HNE.out]; exact E.out.2⟩, S⟩
        · go_wp2
          go_roundg g1
          case measure => have := HG.out; omega
          case rel =>
            have := HG.out
            have he2 : e = 272 := by omega
            obtain ⟨E1, E2⟩ := E.out
            rw [he2] at E1 E2
            have ho : ofLen ln m = cntL ln m 272 := by unfold ofLen; rw [if_neg (by omega)]
            have hf : 2 * c2 = fstC ln (m + 1) := by show _ = 2 * (fstC ln m + ofLen ln m); rw [ho, E1]
            have hfs := fstC_small ln (show m + 1 ≤ 16 by omega)
            have hz : zs2 = listTo ln (m + 1 - 1) := by
              rw [E2, Nat.add_sub_cancel]
              obtain ⟨m', hm'⟩ : ∃ m', m = m' + 1 := ⟨m - 1, by omega⟩
              rw [hm']; rfl
            exact ⟨m + 1, c2, n2, _, _, zs2, rfl, by go_num, by omega, by omega, by omega, by omega, ⟨hf, hz⟩, S⟩
    · go_wp2
      go_ret
      have hm2 : m = 16 := by omega
      have hz := E.out.2
      rw [hm2] at hz
      have hS := S.out
      rw [hz] at hS
      obtain ⟨h1, h2⟩ := ((hS.cong (F' := fstC ln) (T' := fun i => (listTo ln (i - 1)).length) (fun i hi => by rw [if_pos (by omega)]) (fun i hi => by rw [if_pos (by omega)])).up (w' := _) climb).read
      exact ⟨w.heap.size, A, n, cap, rfl, (S.out.up climb).bw, Nat.le_refl _, h1, h2⟩
end Go.Proofs.YtefhcgnamfnkbaaDoor.Pr
