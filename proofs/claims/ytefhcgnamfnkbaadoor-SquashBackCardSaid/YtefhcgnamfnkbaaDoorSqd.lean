/- squash.newDecoder, walked by hand. -/
import Derived.Test.YtefhcgnamfnkbaaDoorSqc
import Derived.Test.YtefhcgnamfnkbaaDoorSqi
import Derived.Deep.AppendLies
namespace Go.Proofs.YtefhcgnamfnkbaaDoor.Pr
open Go.RowKit Go.Proofs.YtefhcgnamfnkbaaDoorW.PrintWords Go.Proofs.YtefhcgnamfnkbaaDoorW.PrintLast Go.Proofs.YtefhcgnamfnkbaaDoorW.PrintMore
set_option linter.unusedVariables false
set_option linter.unusedSimpArgs false

/-- What is put into the decoder's list: symbols. -/
def Sym (u : Value) : Prop := ∃ v, u = .int .i64 v ∧ 0 ≤ v ∧ v < 272
/-- The decoder being made at p. -/
structure Nd (w0 w : World) (p n : Nat) (A : Option Addr) (cap : Nat) : Prop where
  box : ∃ cs : Array Value, w.heap[p]? = some (.cells cs 145 (0, 0)) ∧ cs.size = 33 ∧ cs[32]? = some (.slice A n cap) ∧ (∀ i, i < 16 → ∃ v, cs[i]? = some (.int .i64 v) ∧ 0 ≤ v ∧ v ≤ 1099511627776) ∧ (∀ i, i < 16 → ∃ v : Int, cs[16 + i]? = some (.int .i64 v) ∧ 0 ≤ v ∧ v ≤ n)
  own : ∃ xs, w.ownsRow (p + 1) 3 1 (.slice A n cap) n xs ∧ ∀ u ∈ xs, Sym u
  bw : Below w0.heap.size w0 w
  np : w0.heap.size ≤ p
variable {w0 w w' : World} {p n : Nat} {A : Option Addr} {cap : Nat}
theorem Nd.cl (h : Nd w0 w p n A cap) : w.cell? ⟨p, 32, none⟩ = some (.slice A n cap) := by
  obtain ⟨cs, h1, h2, h3, h4, h5⟩ := h.box
  exact (blk_cell h1 32).trans h3
theorem Nd.free (h : Nd w0 w p n A cap) (j : Nat) : w.frozen? ⟨p, j, none⟩ = false := by
  obtain ⟨cs, h1, h2, h3, h4, h5⟩ := h.box
  exact blk_frozen h1 j
theorem Nd.cf (h : Nd w0 w p n A cap) {i : Nat} (hi : i < 16) : ∃ v, w.cell? ⟨p, i, none⟩ = some (.int .i64 v) := by
  obtain ⟨cs, h1, h2, h3, h4, h5⟩ := h.box
  obtain ⟨v, e, _⟩ := h4 i hi
  exact ⟨v, (blk_cell h1 i).trans e⟩
theorem Nd.ct (h : Nd w0 w p n A cap) {i : Nat} (hi : i < 16) : ∃ v, w.cell? ⟨p, 16 + i, none⟩ = some (.int .i64 v) := by
  obtain ⟨cs, h1, h2, h3, h4, h5⟩ := h.box
  obtain ⟨v, e, _⟩ := h5 i hi
  exact ⟨v, (blk_cell h1 (16 + i)).trans e⟩
theorem Nd.set (h : Nd w0 w p n A cap) {i : Nat} {v : Int} (hi : i < 16 ∧ 0 ≤ v ∧ v ≤ 1099511627776 ∨ 16 ≤ i ∧ i < 32 ∧ 0 ≤ v ∧ v ≤ n) : Nd w0 (w.setCell ⟨p, i, none⟩ (.int .i64 v)) p n A cap := by
  obtain ⟨cs, h1, h2, h3, h4, h5⟩ := h.box
  obtain ⟨xs, ho, hs⟩ := h.own
  refine ⟨⟨cs.setIfInBounds i (.int .i64 v), blk_put h1 i _ rfl, by simp [h2], ?_, fun j hj => ?_, fun j hj => ?_⟩, ⟨xs, own_move ho (fun k hk => ?_), hs⟩, below_set h.bw h.np, h.np⟩
  · simp [Array.getElem?_setIfInBounds, show ¬ i = 32 from by omega, h3]
  · obtain ⟨u, e, p0, p1⟩ := h4 j hj
    by_cases hij : i = j
    · subst hij
      exact ⟨v, by simp [Array.getElem?_setIfInBounds, h2, show i < 33 from by omega], by omega, by omega⟩
    · exact ⟨u, by simp [Array.getElem?_setIfInBounds, hij, e], p0, p1⟩
  · obtain ⟨u, e, p0, p1⟩ := h5 j hj
    by_cases hij : i = 16 + j
    · subst hij
      exact ⟨v, by simp [Array.getElem?_setIfInBounds, h2, show 16 + j < 33 from by omega], by omega, by omega⟩
    · exact ⟨u, by simp [Array.getElem?_setIfInBounds, hij, e], p0, p1⟩
  · have hB := own_base ho k hk
    exact Below.heap_setCell w ⟨p, i, none⟩ _ k (by show k ≠ p; omega)
theorem Nd.stored (h : Nd w0 w p n A cap) {w2 w1 : World} {xs : List Value} {gg cap1 : Nat} {u : Value} (ho : w.ownsRow (p + 1) 3 1 (.slice A n cap) n xs) (hs : ∀ u ∈ xs, Sym u) (hb : Below w.heap.size w w2) (hg : w2.grownBy w1 (Value.slice A n cap).ownBlock)
    (hw : w1.ownsRow (p + 1) 3 1 (.slice (some ⟨gg, 0, none⟩) (n + 1) cap1) (n + 1) (xs ++ [u])) (hu : Sym u) :
    Nd w0 (w1.setCell ⟨p, 32, none⟩ (.slice (some ⟨gg, 0, none⟩) (n + 1) cap1)) p (n + 1) (some ⟨gg, 0, none⟩) cap1 := by
  obtain ⟨cs, h1, h2, h3, h4, h5⟩ := h.box
  have hn : ∀ i, (Value.slice A n cap).ownBlock = some i → p + 1 ≤ i := own_base ho
  have hk : w1.heap[p]? = some (.cells cs 145 (0, 0)) := by
    rw [hg.block p (Nat.lt_of_lt_of_le (blk_lt h1) hb.size) (fun e => by have := hn p e.symm; omega)]
    exact blk_below h1 hb
  refine ⟨⟨cs.setIfInBounds 32 (.slice (some ⟨gg, 0, none⟩) (n + 1) cap1), blk_put hk 32 _ rfl, by simp [h2], ?_, fun j hj => ?_, fun j hj => ?_⟩, ⟨xs ++ [u], own_move hw (fun k hk => ?_), fun z hz => ?_⟩, ⟨?_, ?_, ?_, ?_, fun i hi => ?_⟩, h.np⟩
  · simp [Array.getElem?_setIfInBounds, h2]
  · obtain ⟨u, e, p0, p1⟩ := h4 j hj
    exact ⟨u, by simp [Array.getElem?_setIfInBounds, show ¬ 32 = j from by omega, e], p0, p1⟩
  · obtain ⟨u, e, p0, p1⟩ := h5 j hj
    exact ⟨u, by simp [Array.getElem?_setIfInBounds, show ¬ 32 = 16 + j from by omega, e], p0, by omega⟩
  · have hB := own_base hw k hk
    exact Below.heap_setCell w1 ⟨p, 32, none⟩ _ k (by show k ≠ p; omega)
  · rcases List.mem_append.1 hz with hz | hz
    · exact hs z hz
    · rw [List.mem_singleton.1 hz]; exact hu
  · exact hg.os.trans (hb.os.trans h.bw.os)
  · exact hg.tape.trans (hb.tape.trans h.bw.tape)
  · exact hg.output.trans (hb.output.trans h.bw.output)
  · rw [World.size_setCell]; exact Nat.le_trans h.bw.size (Nat.le_trans hb.size hg.size)
  · have hnp := h.np
    have hsz := h.bw.size
    have hsz2 := hb.size
    rw [Below.heap_setCell w1 ⟨p, 32, none⟩ _ i (by show i ≠ p; omega), hg.block i (by omega) (fun e => by have := hn i e.symm; omega), hb.block i (by omega), h.bw.block i hi]
theorem Nd.kept (h : Nd w0 w p n A cap) {w2 w1 : World} {xs : List Value} {o : Obj} (ho : w.ownsRow (p + 1) 3 1 (.slice A n cap) n xs) (hb : Below w.heap.size w w2) (hg : w2.grownBy w1 (Value.slice A n cap).ownBlock) (hk : w.heap[p]? = some o) : w1.heap[p]? = some o := by
  rw [hg.block p (Nat.lt_of_lt_of_le (blk_lt hk) hb.size) (fun e => by have := own_base ho p e.symm; omega)]
  exact blk_below hk hb
theorem Nd.up (h : Nd w0 w p n A cap) (k : Below w.heap.size w w') : Nd w0 w' p n A cap := by
  obtain ⟨cs, h1, h2⟩ := h.box
  obtain ⟨xs, ho, hs⟩ := h.own
  exact ⟨⟨cs, blk_below h1 k, h2⟩, ⟨xs, own_move ho (fun i hi => k.block i (own_lt ho i hi)), hs⟩, below_step h.bw k, h.np⟩
theorem Nd.read (h : Nd w0 w p n A cap) (hn : n ≤ 1000000) : p < w.heap.size ∧ ∃ f t : Nat → Int, ∀ q, (q < w0.heap.size ∨ w.heap.size ≤ q) → Dr w p q f t A n cap := by
  obtain ⟨cs, h1, h2, h3, h4, h5⟩ := h.box
  obtain ⟨xs, ho, hs⟩ := h.own
  have hlt := blk_lt h1
  have hf : ∀ i, ∃ v, i < 16 → cs[i]? = some (.int .i64 v) ∧ 0 ≤ v ∧ v ≤ 1099511627776 := fun i => by
    by_cases hi : i < 16
    · obtain ⟨v, e⟩ := h4 i hi; exact ⟨v, fun _ => e⟩
    · exact ⟨0, fun h => absurd h hi⟩
  have ht : ∀ i, ∃ v : Int, i < 16 → cs[16 + i]? = some (.int .i64 v) ∧ 0 ≤ v ∧ v ≤ n := fun i => by
    by_cases hi : i < 16
    · obtain ⟨v, e⟩ := h5 i hi; exact ⟨v, fun _ => e⟩
    · exact ⟨0, fun h => absurd h hi⟩
  obtain ⟨f, hf⟩ := Classical.axiomOfChoice hf
  obtain ⟨t, ht⟩ := Classical.axiomOfChoice ht
  refine ⟨hlt, f, t, fun q hq => ⟨fun i hi => (blk_cell h1 i).trans (hf i hi).1, fun i hi => (blk_cell h1 (16 + i)).trans (ht i hi).1, (blk_cell h1 32).trans h3, fun j hj => ?_, by have := h.np; omega, hn, fun i hi => (hf i hi).2, fun i hi => (ht i hi).2⟩⟩
  have hxl : xs.length = n := by have := ho.1; omega
  obtain ⟨g', cap', hv, _, hlt'⟩ := ho.form (by omega)
  simp only [Value.slice.injEq] at hv
  obtain ⟨rfl, _, rfl⟩ := hv
  have hg' := own_base ho g' (by simp [Value.ownBlock])
  have hnp := h.np
  have hjx : j < xs.length := by omega
  obtain ⟨v, hv, v0, v1⟩ := hs _ (List.getElem_mem hjx)
  refine ⟨⟨g', 0, none⟩, v, rfl, by show g' ≠ q; omega, ?_, v0, v1⟩
  rw [ho.cells (g := g') rfl j _ (List.getElem?_eq_getElem hjx), hv]
set_option maxHeartbeats 4000000 in
set_option maxRecDepth 100000 in
theorem newDecoder_calls {P : Int → Prop} (g : Nat) (w : World) (h : Iv w g 272 P) :
    Calls Tryd.prog 34 #[.slice (some ⟨g, 0, none⟩) 272 272] w fun r w' => ∃ p f t A n c, r = .returned (.pointer (some ⟨p, 0, none⟩)) ∧ Below w.heap.size w w' ∧ w.heap.size ≤ p ∧ p < w'.heap.size ∧ ∀ q, (q < w.heap.size ∨ w'.heap.size ≤ q) → Dr w' p q f t A n c := by
  have H := Aside0.mk h
  have hlt := h.lt
  clear h
  go_enter Tryd.func34, Tryd.ntmps34
  go_wp2_with (fail)
  have z0 : Nd w (w.alloc (.cells #[.int .i64 0, .int .i64 0, .int .i64 0, .int .i64 0, .int .i64 0, .int .i64 0, .int .i64 0, .int .i64 0, .int .i64 0, .int .i64 0, .int .i64 0, .int .i64 0, .int .i64 0, .int .i64 0, .int .i64 0, .int .i64 0, .int .i64 0, .int .i64 0, .int .i64 0, .int .i64 0, .int .i64 0, .int .i64 0, .int .i64 0, .int .i64 0, .int .i64 0, .int .i64 0, .int .i64 0, .int .i64 0, .int .i64 0, .int .i64 0, .int .i64 0, .int .i64 0, .slice none 0 0] 145)) w.heap.size 0 none 0 := by
    refine ⟨⟨_, blk_new w _, rfl, rfl, fun i hi => ⟨0, ?_, by omega, by omega⟩, fun i hi => ⟨0, ?_, by omega, by omega⟩⟩, ⟨[], World.ownsRow_nil _ _ _ _, fun u hu => by cases hu⟩, climb, Nat.le_refl _⟩
    · have : i = 0 ∨ i = 1 ∨ i = 2 ∨ i = 3 ∨ i = 4 ∨ i = 5 ∨ i = 6 ∨ i = 7 ∨ i = 8 ∨ i = 9 ∨ i = 10 ∨ i = 11 ∨ i = 12 ∨ i = 13 ∨ i = 14 ∨ i = 15 := by omega
      rcases this with rfl | rfl | rfl | rfl | rfl | rfl | rfl | rfl | rfl | rfl | rfl | rfl | rfl | rfl | rfl | rfl <;> rfl
    · have : i = 0 ∨ i = 1 ∨ i = 2 ∨ i = 3 ∨ i = 4 ∨ i = 5 ∨ i = 6 ∨ i = 7 ∨ i = 8 ∨ i = 9 ∨ i = 10 ∨ i = 11 ∨ i = 12 ∨ i = 13 ∨ i = 14 ∨ i = 15 := by omega
      rcases this with rfl | rfl | rfl | rfl | rfl | rfl | rfl | rfl | rfl | rfl | rfl | rfl | rfl | rfl | rfl | rfl <;> rfl
  have Z := Aside0.mk z0
  clear z0
  go_loopg [4, 5] 15 (fun kq v4 v5 w' => ∃ (m : Nat) (c : Int) (n : Nat) (A : Option Addr) (cap : Nat), v4 = .int .i64 c ∧ v5 = .int .i64 (m : Int) ∧ m + kq = 16 ∧ 1 ≤ m ∧ 0 ≤ c ∧ c + 544 ≤ 2 ^ (9 + m) ∧ n ≤ 272 * (m - 1) ∧ Aside0 (Nd w w' w.heap.size n A cap))
  case atStart => exact ⟨1, 0, 0, none, 0, rfl, rfl, by omega, by omega, by omega, by decide, by omega, Z⟩
  case round =>
    clear Z
    obtain ⟨m, c, n, A, cap, rfl, rfl, hk, hm1, hc0, hc1, hn, S⟩ := hrel
    by_cases hm : m ≤ 15
    · obtain ⟨g1, hg1⟩ : ∃ g1, gk = g1 + 1 := ⟨gk - 1, by omega⟩
      have HG := Aside0.mk hg1
      clear hg1
      have hp : (2 : Int) ^ (9 + m) ≤ 16777216 := by
        rw [Int.pow_add]; have := pow_le15 hm; omega
      have hc2 : c ≤ 16777216 := by omega
      have HC := Aside0.mk hc1
      clear hc1 hp
      have k0 := S.out.cl
      obtain ⟨x1, k1⟩ := S.out.cf (i := m) (by omega)
      obtain ⟨x2, k2⟩ := S.out.ct (i := m) (by omega)
      have f1 := S.out.free m
      have f2 := S.out.free (16 + m)
      have qm : decide ((m : Int) ≤ 15) = true := decide_eq_true (by omega)
      go_upto_region 7 with (fail)
      go_region
      go_wp2
      have S2 := Aside0.mk (((S.out.set (i := m) (v := c * 2) (.inl ⟨by omega, by omega, by omega⟩)).set (i := 16 + m) (v := (n : Int)) (.inr ⟨by omega, by omega, by omega, by omega⟩)).up climb)
      go_loopg [4, 34] 272 (fun kq v4 v34 w' => ∃ (e : Nat) (c2 : Int) (n2 : Nat) (A2 : Option Addr) (cap2 : Nat), v4 = .int .i64 c2 ∧ v34 = .int .i64 (e : Int) ∧ e + kq = 272 ∧ 0 ≤ c2 ∧ c2 ≤ 2 * c + e ∧ n2 ≤ n + e ∧ Aside0 (Nd w w' w.heap.size n2 A2 cap2))
      case atStart => exact ⟨0, c * 2, n, A, cap, rfl, rfl, by omega, by omega, by omega, by omega, ⟨S2.out.up climb⟩⟩
      case round =>
        clear S2 k0 k1 k2 f1 f2 S
        obtain ⟨e, c2, n2, A2, cap2, rfl, rfl, hk2, hd0, hd1, hn2, S⟩ := hrel
        by_cases he : e < 272
        · obtain ⟨g2, hg2⟩ : ∃ g2, gk = g2 + 1 := ⟨gk - 1, by omega⟩
          have HG2 := Aside0.mk hg2
          clear hg2
          obtain ⟨v, cv, pv⟩ := (H.out.up (bl S.out.bw)).at_ he
          clear pv
          by_cases hv : v = (m : Int)
          · have qv : (v == (m : Int)) = true := beq_iff_eq.2 hv
            clear hv
            obtain ⟨i0, hi0, hz0, hz1, hz2⟩ := info_parts int_info
            obtain ⟨xs, ho, hs⟩ := S.out.own
            have HO := Aside0.mk ho
            have HS := Aside0.mk hs
            clear ho hs
            have d0 := S.out.cl
            have fr := S.out.free 32
            obtain ⟨cs, b1, b2⟩ := S.out.box
            have HB := Aside0.mk b1
            have HB2 := Aside0.mk b2.2.1
            clear b1 b2
            go_wp2_with (first | (at_builtin; refine wpList_append_lies _ rfl _ _ _ (by rfl) (w.heap.size + 1) 3 i0 _ 1 8 Tryd.underlying63 hi0 hz0 hz1 hz2 rfl (by omega) (.slice A2 n2 cap2) n2 xs (by rfl) (HO.out.alloc _) ⟨wr.heap.size, 0, none⟩ 1 1 [.int .i64 (e : Int)] (by rfl) (by rfl) (World.news_of_block (cs := #[.int .i64 (e : Int)]) (t := 3) (fr := (0, 0)) (heap_alloc_new wr _)) (by simp [Value.oneCell']) (by omega) (by simp only [maxLen]; omega) (by omega) (by simp only [World.size_alloc]; have := S.out.bw.size; omega) (wr.heap.size + 1) (by simp) ?_; intro gg cap1 w1 hown1 hgrow hat hlt1; have hk1 := Aside0.mk (S.out.kept HO.out climb hgrow HB.out); have e0 := (blk_cell hk1.out 32).trans HB2.out; have e1 := blk_frozen hk1.out 32))
            go_roundg g2
            case measure => have := HG2.out; omega
            case rel => have := HG2.out; exact ⟨e + 1, _, n2 + 1, _, _, rfl, by go_num, by omega, by omega, by omega, by omega, ⟨S.out.stored HO.out HS.out climb hgrow hown1 ⟨e, rfl, by omega, by omega⟩⟩⟩
          · have qv : (v == (m : Int)) = false := beq_eq_false_iff_ne.2 hv
            clear hv
            go_wp2_with (fail)
            go_roundg g2
            case measure => have := HG2.out; omega
            case rel => have := HG2.out; exact ⟨e + 1, _, _, _, _, rfl, by go_num, by omega, by omega, by omega, by omega, S⟩
        · go_wp2
          go_roundg g1
          case measure => have := HG.out; omega
          case rel =>
            have := HG.out
            have h1 := HC.out
            have e2 : (2 : Int) ^ (9 + (m + 1)) = 2 * 2 ^ (9 + m) := by rw [show 9 + (m + 1) = (9 + m) + 1 from rfl, Int.pow_succ]; omega
            exact ⟨m + 1, _, _, _, _, rfl, by go_num, by omega, by omega, by omega, by omega, by omega, S⟩
    · go_wp2
      go_ret
      obtain ⟨h1, f, t, h2⟩ := (S.out.up (w' := _) climb).read (by omega)
      exact ⟨w.heap.size, f, t, A, n, cap, rfl, (S.out.up climb).bw, Nat.le_refl _, h1, h2⟩
end Go.Proofs.YtefhcgnamfnkbaaDoor.Pr
