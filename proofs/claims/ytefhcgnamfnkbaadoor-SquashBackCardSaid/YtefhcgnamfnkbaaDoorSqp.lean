/- squash: the writer's put, walked by hand. -/
import Derived.Test.YtefhcgnamfnkbaaDoorSqu
namespace Go.Proofs.YtefhcgnamfnkbaaDoor.Pr
open Go.RowKit Go.Proofs.YtefhcgnamfnkbaaDoorW.PrintWords Go.Proofs.YtefhcgnamfnkbaaDoorW.PrintLast Go.Proofs.YtefhcgnamfnkbaaDoorW.PrintMore
set_option linter.unusedVariables false
set_option linter.unusedSimpArgs false

/-- Only p and blocks of bytes behind it have changed. -/
structure Aw (p : Nat) (w w' : World) : Prop where
  os : w'.os = w.os
  tape : w'.tape = w.tape
  output : w'.output = w.output
  size : w.heap.size ≤ w'.heap.size
  block : ∀ k, k < w.heap.size → k ≠ p → (k < p ∨ ∀ cs fr, w.heap[k]? ≠ some (.cells cs 5 fr)) → w'.heap[k]? = w.heap[k]?
theorem Aw.refl (p : Nat) (w : World) : Aw p w w := ⟨rfl, rfl, rfl, Nat.le_refl _, fun _ _ _ _ => rfl⟩
theorem Aw.trans {p : Nat} {w w1 w2 : World} (h : Aw p w w1) (k : Aw p w1 w2) : Aw p w w2 := ⟨k.os.trans h.os, k.tape.trans h.tape, k.output.trans h.output, Nat.le_trans h.size k.size, fun i hi hp ht => by
  have e := h.block i hi hp ht
  rw [k.block i (Nat.lt_of_lt_of_le hi h.size) hp (ht.imp id fun hh => by rw [e]; exact hh), e]⟩
theorem Aw.ofBelow {p : Nat} {w w1 : World} (k : Below w.heap.size w w1) : Aw p w w1 := ⟨k.os, k.tape, k.output, k.size, fun i hi _ _ => k.block i hi⟩
theorem Aw.climb {p : Nat} {w w1 w2 : World} (h : Aw p w w1) (k : Below w1.heap.size w1 w2) : Aw p w w2 := h.trans (Aw.ofBelow k)
theorem Aw.set {p j : Nat} {w w1 : World} {u : Value} (h : Aw p w w1) : Aw p w (w1.setCell ⟨p, j, none⟩ u) := h.trans ⟨rfl, rfl, rfl, by rw [World.size_setCell]; exact Nat.le_refl _, fun i hi hp ht => Below.heap_setCell w1 ⟨p, j, none⟩ u i hp⟩
/-- The writer of bits at p. -/
structure Pw (w : World) (p : Nat) (A : Option Addr) (L cap : Nat) (free : Int) : Prop where
  box : w.heap[p]? = some (.cells #[.slice A L cap, .int .i64 free] 69 (0, 0))
  own : ∃ ys, w.ownsRow (p + 1) 5 1 (.slice A L cap) L (ub ys)
  lo : 0 ≤ free
  hi : free ≤ 8
  ne : 0 < free → 0 < L
variable {w w' : World} {p : Nat} {A : Option Addr} {L cap : Nat} {free : Int}
theorem Pw.up (h : Pw w p A L cap free) (k : Below w.heap.size w w') : Pw w' p A L cap free := by
  obtain ⟨ys, ho⟩ := h.own
  exact ⟨blk_below h.box k, ⟨ys, own_move ho (fun i hi => k.block i (own_lt ho i hi))⟩, h.lo, h.hi, h.ne⟩
theorem Pw.c0 (h : Pw w p A L cap free) : w.cell? ⟨p, 0, none⟩ = some (.slice A L cap) := (blk_cell h.box 0).trans rfl
theorem Pw.c1 (h : Pw w p A L cap free) : w.cell? ⟨p, 1, none⟩ = some (.int .i64 free) := (blk_cell h.box 1).trans rfl
theorem Pw.free_ (h : Pw w p A L cap free) (j : Nat) : w.frozen? ⟨p, j, none⟩ = false := blk_frozen h.box j
theorem Pw.kept (h : Pw w p A L cap free) {w2 w1 : World} {ys : List Int} (ho : w.ownsRow (p + 1) 5 1 (.slice A L cap) L (ub ys)) (hb : Below w.heap.size w w2) (hg : w2.grownBy w1 (Value.slice A L cap).ownBlock) : w1.heap[p]? = some (.cells #[.slice A L cap, .int .i64 free] 69 (0, 0)) := by
  rw [hg.block p (Nat.lt_of_lt_of_le (blk_lt h.box) hb.size) (fun e => by have := own_base ho p e.symm; omega)]
  exact blk_below h.box hb
/-- A byte more. -/
theorem Pw.grow (h : Pw w p A L cap free) {w2 w1 : World} {ys : List Int} {gg cap1 : Nat} {v : Int} (ho : w.ownsRow (p + 1) 5 1 (.slice A L cap) L (ub ys)) (hb : Below w.heap.size w w2) (hg : w2.grownBy w1 (Value.slice A L cap).ownBlock)
    (hw : w1.ownsRow (p + 1) 5 1 (.slice (some ⟨gg, 0, none⟩) (L + 1) cap1) (L + 1) (ub ys ++ [.int .u8 v])) :
    Pw ((w1.setCell ⟨p, 0, none⟩ (.slice (some ⟨gg, 0, none⟩) (L + 1) cap1)).setCell ⟨p, 1, none⟩ (.int .i64 8)) p (some ⟨gg, 0, none⟩) (L + 1) cap1 8 ∧ Aw p w ((w1.setCell ⟨p, 0, none⟩ (.slice (some ⟨gg, 0, none⟩) (L + 1) cap1)).setCell ⟨p, 1, none⟩ (.int .i64 8)) := by
  have hk := h.kept ho hb hg
  refine ⟨⟨blk_put (cs' := #[.slice (some ⟨gg, 0, none⟩) (L + 1) cap1, .int .i64 8]) (blk_put (cs' := #[.slice (some ⟨gg, 0, none⟩) (L + 1) cap1, .int .i64 free]) hk 0 _ rfl) 1 _ rfl, ⟨ys ++ [v], ?_⟩, by omega, by omega, fun _ => by omega⟩, (Aw.set (Aw.set ?_))⟩
  · rw [← ub_app]
    refine own_move hw (fun k hk => ?_)
    have hB := own_base hw k hk
    rw [Below.heap_setCell _ ⟨p, 1, none⟩ _ k (by show k ≠ p; omega), Below.heap_setCell _ ⟨p, 0, none⟩ _ k (by show k ≠ p; omega)]
  · refine ⟨hg.os.trans hb.os, hg.tape.trans hb.tape, hg.output.trans hb.output, Nat.le_trans hb.size hg.size, fun k hk hp ht => ?_⟩
    rw [hg.block k (Nat.lt_of_lt_of_le hk hb.size) (fun e => ?_), hb.block k hk]
    have hB := own_base ho k e.symm
    obtain ⟨cs, hcs⟩ := own_typed ho k e.symm
    rcases ht with ht | ht
    · omega
    · exact ht cs _ hcs
theorem Pw.at_ (h : Pw w p A L cap free) {i : Nat} (hi : i < L) : ∃ g v, A = some ⟨g, 0, none⟩ ∧ p < g ∧ w.cell? ⟨g, i, none⟩ = some (.int .u8 v) ∧ w.frozen? ⟨g, i, none⟩ = false ∧
    ∀ x : Int, Pw (w.setCell ⟨g, i, none⟩ (.int .u8 x)) p A L cap free ∧ Aw p w (w.setCell ⟨g, i, none⟩ (.int .u8 x)) := by
  obtain ⟨ys, ho⟩ := h.own
  have hl : ys.length = L := by have := ho.1; simp [ub] at this; omega
  obtain ⟨g, cap', hv, _, hlt⟩ := ho.form (by omega)
  simp only [Value.slice.injEq] at hv
  obtain ⟨rfl, _, rfl⟩ := hv
  have hgp := own_base ho g (by simp [Value.ownBlock])
  have hx : (ub ys)[i]? = some (.int .u8 (ys.getD i 0)) := by
    simp [ub, List.getElem?_eq_getElem (show i < ys.length by omega)]
  have hc := ho.cells (g := g) rfl i _ hx
  have e1 : (⟨g, 0, none⟩ : Addr).add i = ⟨g, i, none⟩ := by unfold Addr.add; by_cases h0 : i = 0 <;> simp [h0]
  rw [e1] at hc
  refine ⟨g, _, rfl, by omega, hc, ho.frozenAt i, fun x => ⟨⟨blk_far h.box (by show p ≠ g; omega) _, ⟨ys.set i x, ?_⟩, h.lo, h.hi, h.ne⟩, ⟨rfl, rfl, rfl, by rw [World.size_setCell]; exact Nat.le_refl _, fun k hk hp ht => Below.heap_setCell w ⟨g, i, none⟩ _ k ?_⟩⟩⟩
  · have hs := ho.stored i (.int .u8 x)
    have e2 : (ub ys).set i (.int .u8 x) = ub (ys.set i x) := by simp [ub, List.map_set]
    rw [← e2]
    exact hs.1
  · show k ≠ g
    rintro rfl
    obtain ⟨cs, hcs⟩ := own_typed ho k (by simp [Value.ownBlock])
    rcases ht with ht | ht
    · omega
    · exact ht cs _ hcs
/-- After the free bits are counted down. -/
theorem Pw.less (h : Pw w p A L cap free) (h1 : 0 < free) : Pw (w.setCell ⟨p, 1, none⟩ (.int .i64 (free - 1))) p A L cap (free - 1) ∧ Aw p w (w.setCell ⟨p, 1, none⟩ (.int .i64 (free - 1))) := by
  obtain ⟨ys, ho⟩ := h.own
  have := h.hi
  refine ⟨⟨blk_put (cs' := #[.slice A L cap, .int .i64 (free - 1)]) h.box 1 _ rfl, ⟨ys, own_move ho (fun k hk => ?_)⟩, by omega, by omega, fun _ => h.ne h1⟩, Aw.set (Aw.refl _ _)⟩
  have hB := own_base ho k hk
  exact Below.heap_setCell w ⟨p, 1, none⟩ _ k (by show k ≠ p; omega)
set_option maxHeartbeats 8000000 in
set_option maxRecDepth 100000 in
theorem bput_calls (p : Nat) (k n : Int) (A : Option Addr) (L cap : Nat) (free : Int) (w : World) (h : Pw w p A L cap free) (h0 : 0 ≤ n) (hn : n ≤ 33554432) (hL : L ≤ 1099511627776) :
    Calls Tryd.prog 32 #[.pointer (some ⟨p, 0, none⟩), .int .i64 k, .int .i64 n] w fun r w' => r = .returned (.tuple #[]) ∧ ∃ A' L' cap' free', Pw w' p A' L' cap' free' ∧ L' ≤ L + n.toNat ∧ L ≤ L' ∧ (0 < n → 0 < L') ∧ Aw p w w' := by
  have H := Aside0.mk h
  clear h
  go_enter Tryd.func32, Tryd.ntmps32
  go_wp2_with (fail)
  go_loopg [6] n.toNat (fun kq v6 w' => ∃ (i : Int) (A1 : Option Addr) (L1 cap1 : Nat) (f1 : Int), v6 = .int .i64 i ∧ i + 1 ≤ kq ∧ i < n ∧ (i < 0 → L1 ≤ L + n.toNat) ∧ (0 ≤ i → (L1 : Int) ≤ L + (n - 1 - i)) ∧ L ≤ L1 ∧ (i + 1 < n → 0 < L1) ∧ Aside0 (Pw w' p A1 L1 cap1 f1) ∧ Aside0 (Aw p w w'))
  case atStart => exact ⟨n - 1, A, L, cap, free, rfl, by omega, by omega, fun _ => by omega, fun _ => by omega, Nat.le_refl _, fun _ => by omega, H, ⟨Aw.refl _ _⟩⟩
  case round =>
    clear H
    obtain ⟨i, A1, L1, cap1, f1, rfl, hk, hin, hL0, hL1, hLL, hpos0, S, SA⟩ := hrel
    by_cases hi : 0 ≤ i
    · have hL2 := hL1 hi
      clear hL0 hL1 hpos0
      have c0 := S.out.c0
      have c1 := S.out.c1
      have e0 := S.out.free_ 0
      have e1 := S.out.free_ 1
      have b0 := S.out.lo
      have b1 := S.out.hi
      go_upto_if 17 with (fail)
      go_cut [] (fun wx => ∃ (A2 : Option Addr) (L2 cap2 : Nat) (f2 : Int), (L2 : Int) ≤ L1 + 1 ∧ L1 ≤ L2 ∧ 0 < f2 ∧ Aside0 (Pw wx p A2 L2 cap2 f2) ∧ Aside0 (Aw p w wx))
      case first =>
        by_cases hf : f1 = 0
        · subst hf
          obtain ⟨i0, hi0, hz0, hz1, hz2⟩ := info_parts byte_info
          obtain ⟨ys, ho⟩ := S.out.own
          have HO := Aside0.mk ho
          clear ho
          have hlt := blk_lt S.out.box
          go_wp2_with (first | (at_builtin; refine wpList_append_lies _ rfl _ _ _ (by rfl) (p + 1) 5 i0 _ 1 1 Tryd.underlying29 hi0 hz0 hz1 hz2 rfl (by omega) (.slice A1 L1 cap1) L1 (ub ys) (by rfl) (HO.out.alloc _) ⟨wr.heap.size, 0, none⟩ 1 1 [.int .u8 0] (by rfl) (by rfl) (World.news_of_block (cs := #[.int .u8 0]) (t := 5) (fr := (0, 0)) (heap_alloc_new wr _)) (by simp [Value.oneCell']) (by omega) (by simp only [maxLen]; omega) (by omega) (by simp only [World.size_alloc]; omega) (wr.heap.size + 1) (by simp) ?_; intro gg cap2 w5 hown1 hgrow hat hlt1; have hk1 := Aside0.mk (S.out.kept HO.out climb hgrow); have d0 := (blk_cell hk1.out 0).trans rfl; have d1 := (blk_cell hk1.out 1).trans rfl; have e2 := blk_frozen hk1.out 0; have e3 := blk_frozen hk1.out 1))
          go_meet
          case rel =>
            have G := S.out.grow HO.out climb hgrow hown1
            exact ⟨_, L1 + 1, cap2, 8, by omega, by omega, by omega, ⟨G.1⟩, ⟨SA.out.trans G.2⟩⟩
        · have hq : (f1 == 0) = false := beq_eq_false_iff_ne.2 hf
          have hpos : 0 < f1 := by omega
          clear hf
          go_wp2
          go_meet
          case rel => exact ⟨A1, L1, cap1, f1, by omega, by omega, by omega, S, SA⟩
      case rest =>
        clear c0 c1 e0 e1 b0 b1 S SA
        obtain ⟨A2, L2, cap2, f2, hL3, hL4, hf2, S, SA⟩ := hcut
        have c0 := S.out.c0
        have c1 := S.out.c1
        have e0 := S.out.free_ 0
        have e1 := S.out.free_ 1
        have b1 := S.out.hi
        have n0 := S.out.ne hf2
        have G1 := S.out.less hf2
        have S1 := Aside0.mk G1.1
        have SA1 := Aside0.mk (SA.out.trans G1.2)
        clear G1
        go_upto_region 6 with (fail)
        obtain ⟨W, hW⟩ : ∃ W, W = wc.setCell ⟨p, 1, none⟩ (.int .i64 (f2 - 1)) := ⟨_, rfl⟩
        rw [← hW] at S1 SA1 ⊢
        clear c0 c1 e0 e1 S SA hW
        have c0 := S1.out.c0
        have c1 := S1.out.c1
        obtain ⟨g', v, rfl, hpg, cv, fv, hput⟩ := S1.out.at_ (i := L2 - 1) (by omega)
        have r1 : 0 ≤ (L2 : Int) - 1 := by omega
        have r2 : ((L2 : Int) - 1).toNat = L2 - 1 := by omega
        have r3 : (L2 : Int) - 1 < L2 := by omega
        have HP := Aside0.mk hput
        clear hput
        go_region
        go_wp2
        go_roundg i.toNat
        case measure => omega
        case rel => exact ⟨i - 1, _, L2, cap2, f2 - 1, rfl, by omega, by omega, fun _ => by omega, fun _ => by omega, by omega, fun _ => n0, ⟨(HP.out _).1.up climb⟩, ⟨(SA1.out.trans (HP.out _).2).climb climb⟩⟩
    · go_wp2
      go_end0
      exact ⟨rfl, _, _, ⟨_, _, S.out.up climb⟩, hL0 (by omega), hLL, fun h => hpos0 (by omega), SA.out.climb climb⟩
end Go.Proofs.YtefhcgnamfnkbaaDoor.Pr
