/- slices.Grow, Concat at int, walked by hand. -/
import Derived.Test.YtefhcgnamfnkbaaDoorSqi
import Derived.Test.YtefhcgnamfnkbaaDoorSqd
import Derived.Lib.AppendZerosOnto
namespace Go.Proofs.YtefhcgnamfnkbaaDoor.Pr
open Go.RowKit Go.Proofs.YtefhcgnamfnkbaaDoorW.PrintWords Go.Proofs.YtefhcgnamfnkbaaDoorW.PrintLast Go.Proofs.YtefhcgnamfnkbaaDoorW.PrintMore
set_option linter.unusedVariables false
set_option linter.unusedSimpArgs false
variable {w w' : World}
/-- A slice of symbols that holds one or more. -/
def Sy (w : World) (A : Option Addr) (l c : Nat) : Prop := ∃ (ad : Addr) (xs : List Value), A = some ad ∧ xs.length = l ∧ 0 < l ∧ l ≤ c ∧ (∀ j u, xs[j]? = some u → w.cell? (ad.add j) = some u) ∧ ∀ u ∈ xs, Sym u
theorem Sy.up {A : Option Addr} {l c : Nat} (h : Sy w A l c) (k : Below w.heap.size w w') : Sy w' A l c := by
  obtain ⟨ad, xs, e, h1, h2, h3, h4, h5⟩ := h
  exact ⟨ad, xs, e, h1, h2, h3, fun j u hu => (k.cell (World.block_lt_of_cell? w _ (h4 j u hu))).trans (h4 j u hu), h5⟩
theorem Sy.own {B n cap : Nat} {A : Option Addr} {xs : List Value} (h : w.ownsRow B 3 1 (.slice A n cap) n xs) (hn : 0 < n) (hs : ∀ u ∈ xs, Sym u) : Sy w A n cap := by
  obtain ⟨g, cap', hv, hc, hlt⟩ := h.form hn
  simp only [Value.slice.injEq] at hv
  obtain ⟨rfl, _, rfl⟩ := hv
  refine ⟨⟨g, 0, none⟩, xs, rfl, by have := h.1; omega, hn, ?_, h.cells (g := g) rfl, hs⟩
  rcases h.2 with ⟨e, _⟩ | ⟨g', cap', cur, e, _, _, hnc, _⟩
  · cases e
  · simp only [Value.slice.injEq] at e
    obtain ⟨_, _, rfl⟩ := e
    exact hnc
/-- Such a slice, in a block of integers. -/
def Sz (w : World) (N : Nat) (A : Option Addr) (l c : Nat) : Prop := Sy w A l c ∧ ∀ ad, A = some ad → N ≤ ad.block ∧ ∃ cs fr, w.heap[ad.block]? = some (.cells cs 3 fr)
/-- Blocks of integers are as they were. -/
def T3 (w w' : World) : Prop := ∀ (k : Nat) (cs : Array Value) (fr : Nat × Nat), w.heap[k]? = some (.cells cs 3 fr) → w'.heap[k]? = some (.cells cs 3 fr)
theorem Sz.low {N N' : Nat} {A : Option Addr} {l c : Nat} (h : Sz w N A l c) (k : N' ≤ N) : Sz w N' A l c := ⟨h.1, fun ad e => ⟨Nat.le_trans k (h.2 ad e).1, (h.2 ad e).2⟩⟩
theorem Sz.t3 {N : Nat} {A : Option Addr} {l c : Nat} (h : Sz w N A l c) (k : T3 w w') : Sz w' N A l c := by
  obtain ⟨⟨ad, xs, e, h1, h2, h3, h4, h5⟩, h6⟩ := h
  obtain ⟨hN, cs, fr, hb⟩ := h6 ad e
  have hb' := k _ cs fr hb
  exact ⟨⟨ad, xs, e, h1, h2, h3, fun j u hu => (World.cell?_of_block (w := w) (a := ad.add j) (by rw [add_block]; rw [hb, hb'])).trans (h4 j u hu), h5⟩, fun ad' e' => by rw [e] at e'; cases e'; exact ⟨hN, cs, fr, hb'⟩⟩
theorem T3.ofBelow (k : Below w.heap.size w w') : T3 w w' := fun i cs fr h => (k.block i (by
  rcases Nat.lt_or_ge i w.heap.size with h1 | h1
  · exact h1
  · rw [Array.getElem?_eq_none h1] at h; cases h)).trans h
theorem T3.trans {w1 : World} (h : T3 w w1) (k : T3 w1 w') : T3 w w' := fun i cs fr e => k i cs fr (h i cs fr e)
theorem T3.grown {w2 w1 : World} {B n : Nat} {v : Value} {xs : List Value} (ho : w.ownsRow B 137 2 v n xs) (hb : Below w.heap.size w w2) (hg : w2.grownBy w1 v.ownBlock) : T3 w w1 := fun i cs fr h => by
  have hi : i < w.heap.size := by
    rcases Nat.lt_or_ge i w.heap.size with h1 | h1
    · exact h1
    · rw [Array.getElem?_eq_none h1] at h; cases h
  rw [hg.block i (Nat.lt_of_lt_of_le hi hb.size) (fun e => ?_), hb.block i hi, h]
  obtain ⟨cs', h'⟩ := own_typed ho i e.symm
  rw [h'] at h
  simp only [Option.some.injEq, Obj.cells.injEq] at h
  exact absurd h.2.1 (by decide)
theorem T3.ap {g : Nat} {cs : Array Value} {fr : Nat × Nat} (k : Ap w.heap.size g w w') (hg : w.heap[g]? = some (.cells cs 137 fr)) : T3 w w' := fun i cs' fr' h => by
  have hi : i < w.heap.size := by
    rcases Nat.lt_or_ge i w.heap.size with h1 | h1
    · exact h1
    · rw [Array.getElem?_eq_none h1] at h; cases h
  rw [k.block i hi (fun e => ?_), h]
  subst e
  rw [hg] at h
  simp only [Option.some.injEq, Obj.cells.injEq] at h
  exact absurd h.2.1 (by decide)
/-- A row of bundles, none of more than M symbols. -/
def Lb (w : World) (B N : Nat) (A : Option Addr) (n cap M : Nat) : Prop := ∃ xs, w.ownsRow B 137 2 (.slice A n cap) n xs ∧ ∀ i, i < n → ∃ (a : Int) (A' : Option Addr) (l c : Nat), xs[i * 2]? = some (.int .i64 a) ∧ xs[i * 2 + 1]? = some (.slice A' l c) ∧ Sz w N A' l c ∧ l ≤ M
theorem Lb.up {B N n cap M : Nat} {A : Option Addr} (h : Lb w B N A n cap M) (k : Below w.heap.size w w') : Lb w' B N A n cap M := by
  obtain ⟨xs, ho, hx⟩ := h
  refine ⟨xs, own_move ho (fun i hi => k.block i (own_lt ho i hi)), fun i hi => ?_⟩
  obtain ⟨a, A', l, c, e1, e2, hz, hl⟩ := hx i hi
  exact ⟨a, A', l, c, e1, e2, hz.t3 (T3.ofBelow k), hl⟩
theorem Lb.nil (w : World) (B N M : Nat) : Lb w B N none 0 0 M := ⟨[], World.ownsRow_nil _ _ _ _, fun i hi => by omega⟩
theorem Lb.at_ {B N n cap M : Nat} {A : Option Addr} (h : Lb w B N A n cap M) {i : Nat} (hi : i < n) : ∃ (g : Nat) (a : Int) (A' : Option Addr) (l c : Nat), A = some ⟨g, 0, none⟩ ∧ B ≤ g ∧ w.cell? ⟨g, i * 2, none⟩ = some (.int .i64 a) ∧ w.cell? ⟨g, i * 2 + 1, none⟩ = some (.slice A' l c) ∧ Sz w N A' l c ∧ l ≤ M := by
  obtain ⟨xs, ho, hx⟩ := h
  obtain ⟨a, A', l, c, e1, e2, hz, hl⟩ := hx i hi
  obtain ⟨g, cap', hv, hc, _⟩ := ho.form (by omega)
  simp only [Value.slice.injEq] at hv
  obtain ⟨rfl, _, rfl⟩ := hv
  have c1 := ho.cells (g := g) rfl _ _ e1
  have c2 := ho.cells (g := g) rfl _ _ e2
  have ea : ∀ j, (⟨g, 0, none⟩ : Addr).add j = ⟨g, j, none⟩ := fun j => by unfold Addr.add; by_cases h0 : j = 0 <;> simp [h0]
  rw [ea] at c1 c2
  exact ⟨g, a, A', l, c, rfl, own_base ho g (by simp [Value.ownBlock]), c1, c2, hz, hl⟩
/-- A bundle more. -/
theorem Lb.stored {B N n cap M : Nat} {A : Option Addr} {xs : List Value} {w2 w1 : World} {gg cap1 : Nat} {a : Int} {A' : Option Addr} {l c : Nat} (ho : w.ownsRow B 137 2 (.slice A n cap) n xs) (hx : ∀ i, i < n → ∃ (a : Int) (A' : Option Addr) (l c : Nat), xs[i * 2]? = some (.int .i64 a) ∧ xs[i * 2 + 1]? = some (.slice A' l c) ∧ Sz w N A' l c ∧ l ≤ M)
    (hb : Below w.heap.size w w2) (hg : w2.grownBy w1 (Value.slice A n cap).ownBlock) (hw : w1.ownsRow B 137 2 (.slice (some ⟨gg, 0, none⟩) (n + 1) cap1) (n + 1) (xs ++ [.int .i64 a, .slice A' l c])) (hz : Sz w N A' l c) (hl : l ≤ M) : Lb w1 B N (some ⟨gg, 0, none⟩) (n + 1) cap1 M := by
  have ht := T3.grown ho hb hg
  have hlen : xs.length = n * 2 := ho.1
  refine ⟨_, hw, fun i hi => ?_⟩
  by_cases hin : i < n
  · obtain ⟨a', A2, l', c', e1, e2, hz', hl'⟩ := hx i hin
    exact ⟨a', A2, l', c', by rw [List.getElem?_append_left (by omega)]; exact e1, by rw [List.getElem?_append_left (by omega)]; exact e2, hz'.t3 ht, hl'⟩
  · obtain rfl : i = n := by omega
    refine ⟨a, A', l, c, ?_, ?_, hz.t3 ht, hl⟩
    · rw [List.getElem?_append_right (by omega), show i * 2 - xs.length = 0 from by omega]; rfl
    · rw [List.getElem?_append_right (by omega), show i * 2 + 1 - xs.length = 1 from by omega]; rfl
set_option maxHeartbeats 4000000 in
set_option maxRecDepth 100000 in
theorem grow_calls (n : Nat) (w : World) (h0 : 0 < n) (hn : n ≤ 1000000) :
    Calls Tryd.prog 110 #[.slice none 0 0, .int .i64 (n : Int)] w fun r w' => ∃ g c, r = .returned (.slice (some ⟨g, 0, none⟩) 0 c) ∧ w'.ownsRow w.heap.size 3 1 (.slice (some ⟨g, 0, none⟩) 0 c) 0 [] ∧ Below w.heap.size w w' := by
  obtain ⟨i0, hi0, hz0, hz1, hz2⟩ := info_parts int_info
  have hr := fun ty => Lib.run_append_nil_zeros (P := Tryd.prog) w 63 3 ty 3 i0 (.int .i64 0) .i64 .i64 Tryd.underlying63 Tryd.underlying3 hi0 hz0 n h0 (by omega) (by omega) (by rw [hz2]; omega)
  have hG1 := grownCap_ge w n 0 3
  have hG2 := grownCap_le_maxLen w n 0 3 (by unfold maxLen; omega)
  obtain ⟨G, hG⟩ : ∃ G, G = grownCap w n 0 3 := ⟨_, rfl⟩
  rw [← hG] at hG1 hG2 hr
  clear hG
  have hG3 : G ≤ 9223372036854775807 := hG2
  go_enter Tryd.func110, Tryd.ntmps110
  go_wp2_with (at_builtin; refine Lib.wpList_append_run _ rfl _ _ _ _ rfl _ _ rfl rfl _ _ (hr _) ?_)
  go_ret
  refine ⟨w.heap.size, G, rfl, ⟨rfl, .inr ⟨w.heap.size, G, _, rfl, Nat.le_refl _, blk_new _ _, by omega, hG2, ?_, rfl⟩⟩, climb⟩
  rw [Array.size_append, size_zeroCells, size_zeroCells]
  show n * 1 + (G - n) * 1 = G * 1
  omega
set_option maxHeartbeats 8000000 in
set_option maxRecDepth 100000 in
theorem concat_calls (h : Nat) (A1 A2 : Option Addr) (l1 c1 l2 c2 : Nat) (w : World) (k0 : w.cell? ⟨h, 0, none⟩ = some (.slice A1 l1 c1)) (k1 : w.cell? ⟨h, 1, none⟩ = some (.slice A2 l2 c2)) (s1 : Sy w A1 l1 c1) (s2 : Sy w A2 l2 c2) (b1 : l1 ≤ 400000) (b2 : l2 ≤ 400000) :
    Calls Tryd.prog 73 #[.slice (some ⟨h, 0, none⟩) 2 2] w fun r w' => ∃ A c, r = .returned (.slice A (l1 + l2) c) ∧ Sz w' w.heap.size A (l1 + l2) c ∧ Below w.heap.size w w' := by
  obtain ⟨ad1, xs1, rfl, e1, p1, d1, q1, t1⟩ := s1
  obtain ⟨ad2, xs2, rfl, e2, p2, d2, q2, t2⟩ := s2
  have Q1 := Aside0.mk q1
  have Q2 := Aside0.mk q2
  have T1 := Aside0.mk t1
  have T2 := Aside0.mk t2
  have E1 := Aside0.mk e1
  have E2 := Aside0.mk e2
  have hh : h < w.heap.size := World.block_lt_of_cell? w _ k0
  clear q1 q2 t1 t2 e1 e2
  go_enter Tryd.func73, Tryd.ntmps73
  go_wp2_with (fail)
  go_loopg [3, 11] 2 (fun kq v3 v11 w' => ∃ (i : Nat) (z : Int), v3 = .int .i64 z ∧ v11 = .int .i64 (i : Int) ∧ i + kq = 2 ∧ (i = 0 → z = 0) ∧ (i = 1 → z = l1) ∧ (i = 2 → z = l1 + l2) ∧ w' = w)
  case atStart => exact ⟨0, 0, rfl, rfl, rfl, fun _ => rfl, fun h => by omega, fun h => by omega, rfl⟩
  case round =>
    obtain ⟨i, z, rfl, rfl, hk, z0, z1, z2, hw⟩ := hrel
    have hw := hw.symm
    subst hw
    obtain rfl | rfl | rfl : i = 0 ∨ i = 1 ∨ i = 2 := by omega
    · obtain rfl := z0 rfl
      clear z0 z1 z2
      go_wp2
      go_roundg 1
      case measure => omega
      case rel => exact ⟨1, l1, by go_num, rfl, rfl, fun h => by omega, fun _ => rfl, fun h => by omega, rfl⟩
    · obtain rfl := z1 rfl
      clear z0 z1 z2
      go_wp2
      go_roundg 0
      case measure => omega
      case rel => exact ⟨2, (l1 : Int) + l2, by go_num, rfl, rfl, fun h => by omega, fun h => by omega, fun _ => rfl, rfl⟩
    · obtain rfl := z2 rfl
      clear z0 z1 z2
      have r1 : (0 : Int) ≤ (l1 : Int) + l2 := by omega
      have hg := grow_calls (l1 + l2) w (by omega) (by omega)
      rw [Int.natCast_add] at hg
      have HG := Aside0.mk hg
      clear hg
      go_wp2_with (first | (go_at_call 110; (with_reducible refine (HG.out).mono ?_); rintro _ w1 ⟨g1, cg, rfl, ho, hb⟩; have HO := Aside0.mk ho; have HB := Aside0.mk hb; clear ho hb))
      go_loopg [6, 27] 2 (fun kq v6 v27 w' => ∃ (i : Nat) (A : Option Addr) (n cap : Nat) (ys : List Value), v6 = .slice A n cap ∧ v27 = .int .i64 (i : Int) ∧ i + kq = 2 ∧ Aside0 (i = 0 → n = 0 ∧ ys = []) ∧ Aside0 (i = 1 → n = l1 ∧ ys = xs1) ∧ Aside0 (i = 2 → n = l1 + l2 ∧ ys = xs1 ++ xs2) ∧ Aside0 (w'.ownsRow w.heap.size 3 1 (.slice A n cap) n ys) ∧ Aside0 (Below w.heap.size w w'))
      case atStart => exact ⟨0, some ⟨g1, 0, none⟩, 0, cg, [], rfl, rfl, rfl, ⟨fun _ => ⟨rfl, rfl⟩⟩, ⟨fun h => by omega⟩, ⟨fun h => by omega⟩, HO, HB⟩
      case round =>
        clear HO HB
        obtain ⟨i, A, n, cap, ys, rfl, rfl, hk2, Y0, Y1, Y2, HO, SB⟩ := hrel
        have k0' := (SB.out.cell (p := ⟨h, 0, none⟩) hh).trans k0
        have k1' := (SB.out.cell (p := ⟨h, 1, none⟩) hh).trans k1
        obtain ⟨i0, hi0, hz0, hz1, hz2⟩ := info_parts int_info
        have hnb : ∀ (w2 : World), wr.grownBy w2 (Value.slice A n cap).ownBlock → Below w.heap.size w w2 := fun w2 hg => ⟨hg.os.trans SB.out.os, hg.tape.trans SB.out.tape, hg.output.trans SB.out.output, Nat.le_trans SB.out.size hg.size, fun k hk => by
          rw [hg.block k (Nat.lt_of_lt_of_le hk SB.out.size) (fun e => by have := own_base HO.out k e.symm; omega), SB.out.block k hk]⟩
        have HNB := Aside0.mk hnb
        clear hnb
        obtain rfl | rfl | rfl : i = 0 ∨ i = 1 ∨ i = 2 := by omega
        · obtain ⟨rfl, rfl⟩ := Y0.out rfl
          go_wp2_with (first | (at_builtin; refine wpList_append_lies _ rfl _ _ _ (by rfl) w.heap.size 3 i0 _ 1 8 Tryd.underlying63 hi0 hz0 hz1 hz2 rfl (by omega) (.slice A 0 cap) 0 ([]) (by rfl) HO.out ad1 l1 c1 xs1 (by rfl) (by have := E1.out; omega) (fun j u hu => (SB.out.cell (World.block_lt_of_cell? w _ (Q1.out j u hu))).trans (Q1.out j u hu)) (fun u hu => by obtain ⟨v, rfl, _⟩ := T1.out u hu; rfl) (by omega) (by simp only [maxLen]; omega) (by omega) SB.out.size wr.heap.size rfl ?_; intro gg cap1 w2 hown1 hgrow hat hlt1))
          go_roundg 1
          case measure => omega
          case rel => exact ⟨1, _, l1, cap1, xs1, by first | rfl | simp, rfl, rfl, ⟨fun h => by omega⟩, ⟨fun _ => ⟨rfl, rfl⟩⟩, ⟨fun h => by omega⟩, ⟨by simpa only [Nat.zero_add, List.nil_append] using hown1⟩, ⟨HNB.out _ hgrow⟩⟩
        · obtain ⟨hn1, hy1⟩ := Y1.out rfl
          subst hn1 hy1
          go_wp2_with (first | (at_builtin; refine wpList_append_lies _ rfl _ _ _ (by rfl) w.heap.size 3 i0 _ 1 8 Tryd.underlying63 hi0 hz0 hz1 hz2 rfl (by omega) (.slice A n cap) n (ys) (by rfl) HO.out ad2 l2 c2 xs2 (by rfl) (by have := E2.out; omega) (fun j u hu => (SB.out.cell (World.block_lt_of_cell? w _ (Q2.out j u hu))).trans (Q2.out j u hu)) (fun u hu => by obtain ⟨v, rfl, _⟩ := T2.out u hu; rfl) (by omega) (by simp only [maxLen]; omega) (by omega) SB.out.size wr.heap.size rfl ?_; intro gg cap1 w2 hown1 hgrow hat hlt1))
          go_roundg 0
          case measure => omega
          case rel => exact ⟨2, _, n + l2, cap1, ys ++ xs2, rfl, rfl, rfl, ⟨fun h => by omega⟩, ⟨fun h => by omega⟩, ⟨fun _ => ⟨rfl, rfl⟩⟩, ⟨hown1⟩, ⟨HNB.out _ hgrow⟩⟩
        · obtain ⟨rfl, rfl⟩ := Y2.out rfl
          go_wp2
          go_ret
          refine ⟨A, cap, rfl, ⟨(Sy.own HO.out (by omega) fun u hu => ?_).up climb, fun ad e => ?_⟩, bl SB.out⟩
          · rcases List.mem_append.1 hu with hu | hu
            · exact T1.out u hu
            · exact T2.out u hu
          · obtain ⟨cs, h1⟩ := own_typed HO.out ad.block (by rw [e]; rfl)
            exact ⟨own_base HO.out ad.block (by rw [e]; rfl), cs, _, h1⟩
end Go.Proofs.YtefhcgnamfnkbaaDoor.Pr
