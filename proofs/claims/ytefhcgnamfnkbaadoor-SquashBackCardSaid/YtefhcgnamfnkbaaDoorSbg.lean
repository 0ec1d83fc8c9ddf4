/- squash.lengthsOf, exactly: its words. -/
import Derived.Test.YtefhcgnamfnkbaaDoorSbf
import Derived.Test.YtefhcgnamfnkbaaDoorSbl
import Derived.Test.YtefhcgnamfnkbaaDoorSql
namespace Go.Proofs.YtefhcgnamfnkbaaDoor.Pr
open Go.RowKit Go.Proofs.YtefhcgnamfnkbaaDoorW.PrintWords Go.Proofs.YtefhcgnamfnkbaaDoorW.PrintLast Go.Proofs.YtefhcgnamfnkbaaDoorW.PrintMore
open Go.Proofs.YtefhcgnamfnkbaaDoor.Sb
set_option linter.unusedVariables false
set_option linter.unusedSimpArgs false
variable {w w' w0 : World}
/-- Integers as they lie in memory. -/
def nv (ys : List Nat) : List Value := ys.map fun (y : Nat) => Value.int .i64 (y : Int)
theorem nv_app (xs ys : List Nat) : nv xs ++ nv ys = nv (xs ++ ys) := by simp [nv]
theorem nv_len (ys : List Nat) : (nv ys).length = ys.length := by simp [nv]
theorem nv_at {ys : List Nat} {j y : Nat} (h : ys[j]? = some y) : (nv ys)[j]? = some (.int .i64 (y : Int)) := by simp [nv, h]
/-- A slice of symbols, one by one. -/
def Sx (w : World) (N : Nat) (A : Option Addr) (l c : Nat) (ys : List Nat) : Prop := ∃ ad : Addr, A = some ad ∧ ys.length = l ∧ 0 < l ∧ l ≤ c ∧ (∀ j u, (nv ys)[j]? = some u → w.cell? (ad.add j) = some u) ∧ (∀ y ∈ ys, y < 272) ∧ N ≤ ad.block ∧ ∃ cs fr, w.heap[ad.block]? = some (.cells cs 3 fr)
theorem nv_sym {ys : List Nat} (h : ∀ y ∈ ys, y < 272) : ∀ u ∈ nv ys, Sym u := fun u hu => by
  obtain ⟨y, hy, rfl⟩ := List.mem_map.1 hu
  have := h y hy
  exact ⟨y, rfl, by omega, by omega⟩
theorem Sx.low {N N' l c : Nat} {A : Option Addr} {ys : List Nat} (h : Sx w N A l c ys) (k : N' ≤ N) : Sx w N' A l c ys := by
  obtain ⟨ad, h1, h2, h3, h4, h5, h6, h7, h8⟩ := h
  exact ⟨ad, h1, h2, h3, h4, h5, h6, Nat.le_trans k h7, h8⟩
theorem Sx.t3 {N l c : Nat} {A : Option Addr} {ys : List Nat} (h : Sx w N A l c ys) (k : T3 w w') : Sx w' N A l c ys := by
  obtain ⟨ad, h1, h2, h3, h4, h5, h6, h7, cs, fr, hb⟩ := h
  have hb' := k _ cs fr hb
  exact ⟨ad, h1, h2, h3, h4, fun j u hu => (World.cell?_of_block (w := w) (a := ad.add j) (by rw [add_block]; rw [hb, hb'])).trans (h5 j u hu), h6, h7, cs, fr, hb'⟩
theorem Sx.put {N l c : Nat} {A : Option Addr} {ys : List Nat} (h : Sx w N A l c ys) {a : Addr} (hg : a.block < N) (v : Value) : Sx (w.setCell a v) N A l c ys := by
  obtain ⟨ad, h1, h2, h3, h4, h5, h6, h7, cs, fr, hb⟩ := h
  have hne : ad.block ≠ a.block := by omega
  exact ⟨ad, h1, h2, h3, h4, fun j u hu => (cell_far (a := ad.add j) (by rw [add_block]; exact hne) _).trans (h5 j u hu), h6, h7, cs, fr, (Below.heap_setCell _ a _ _ hne).trans hb⟩
theorem Sx.at_ {N l c : Nat} {A : Option Addr} {ys : List Nat} (h : Sx w N A l c ys) {f : Nat} (hf : f < l) : ∃ (ad : Addr) (y : Nat), A = some ad ∧ w.cell? (ad.add f) = some (.int .i64 (y : Int)) ∧ (y : Int) < 272 ∧ ys[f]? = some y := by
  obtain ⟨ad, h1, h2, h3, h4, h5, h6, h7, cs, fr, hb⟩ := h
  have hy : ys[f]? = some (ys[f]'(by omega)) := List.getElem?_eq_getElem (by omega)
  have := h6 _ (List.mem_of_getElem? hy)
  exact ⟨ad, _, h1, h5 f _ (nv_at hy), by omega, hy⟩
theorem Sx.own {B n cap : Nat} {A : Option Addr} {ys : List Nat} (h : w.ownsRow B 3 1 (.slice A n cap) n (nv ys)) (hn : 0 < n) (hs : ∀ y ∈ ys, y < 272) : Sx w B A n cap ys := by
  have hl : ys.length = n := by have := h.1; rw [nv_len] at this; omega
  obtain ⟨g, cap', hv, hc, hlt⟩ := h.form hn
  simp only [Value.slice.injEq] at hv
  obtain ⟨rfl, _, rfl⟩ := hv
  obtain ⟨cs, h1⟩ := own_typed h g (by simp [Value.ownBlock])
  refine ⟨⟨g, 0, none⟩, rfl, hl, hn, ?_, h.cells (g := g) rfl, hs, own_base h g (by simp [Value.ownBlock]), cs, _, h1⟩
  rcases h.2 with ⟨e, _⟩ | ⟨g', cap', cur, e, _, _, hnc, _⟩
  · cases e
  · simp only [Value.slice.injEq] at e
    obtain ⟨_, _, rfl⟩ := e
    exact hnc
set_option maxHeartbeats 8000000 in
set_option maxRecDepth 100000 in
theorem concat_own (h : Nat) (ad1 ad2 : Addr) (xs1 xs2 : List Value) (l1 c1 l2 c2 : Nat) (w : World) (k0 : w.cell? ⟨h, 0, none⟩ = some (.slice (some ad1) l1 c1)) (k1 : w.cell? ⟨h, 1, none⟩ = some (.slice (some ad2) l2 c2)) (e1 : xs1.length = l1) (e2 : xs2.length = l2) (p1 : 0 < l1) (p2 : 0 < l2)
    (q1 : ∀ j u, xs1[j]? = some u → w.cell? (ad1.add j) = some u) (q2 : ∀ j u, xs2[j]? = some u → w.cell? (ad2.add j) = some u) (t1 : ∀ u ∈ xs1, Sym u) (t2 : ∀ u ∈ xs2, Sym u) (d1 : l1 ≤ c1) (d2 : l2 ≤ c2) (b1 : l1 ≤ 400000) (b2 : l2 ≤ 400000) :
    Calls Tryd.prog 73 #[.slice (some ⟨h, 0, none⟩) 2 2] w fun r w' => ∃ A c, r = .returned (.slice A (l1 + l2) c) ∧ w'.ownsRow w.heap.size 3 1 (.slice A (l1 + l2) c) (l1 + l2) (xs1 ++ xs2) ∧ Below w.heap.size w w' := by
  have Q1 := Aside0.mk q1
  have Q2 := Aside0.mk q2
  have T1 := Aside0.mk t1
  have T2 := Aside0.mk t2
  have E1 := Aside0.mk e1
  have E2 := Aside0.mk e2
  have hh : h < w.heap.size := World.block_lt_of_cell? w _ k0
  clear q1 q2 t1 t2 e1 e2
  go_enter Tryd.func73, Tryd.ntmps73
  go_wp2_with (fail)
  go_loopg [3, 11] 2 (fun kq v3 v11 w' => ∃ (i : Nat) (z : Int), v3 = .int .i64 z ∧ v11 = .int .i64 (i : Int) ∧ i + kq = 2 ∧ (i = 0 → z = 0) ∧ (i = 1 → z = l1) ∧ (i = 2 → z = l1 + l2) ∧ w' = w)
  case atStart => exact ⟨0, 0, rfl, rfl, rfl, fun _ => rfl, fun h => by omega, fun h => by omega, rfl⟩
  case round =>
    obtain ⟨i, z, rfl, rfl, hk, z0, z1, z2, hw⟩ := hrel
    have hw := hw.symm
    subst hw
    obtain rfl | rfl | rfl : i = 0 ∨ i = 1 ∨ i = 2 := by omega
    · obtain rfl := z0 rfl
      clear z0 z1 z2
      go_wp2
      go_roundg 1
      case measure => omega
      case rel => exact ⟨1, l1, by go_num, rfl, rfl, fun h => by omega, fun _ => rfl, fun h => by omega, rfl⟩
    · obtain rfl := z1 rfl
      clear z0 z1 z2
      go_wp2
      go_roundg 0
      case measure => omega
      case rel => exact ⟨2, (l1 : Int) + l2, by go_num, rfl, rfl, fun h => by omega, fun h => by omega, fun _ => rfl, rfl⟩
    · obtain rfl := z2 rfl
      clear z0 z1 z2
      have r1 : (0 : Int) ≤ (l1 : Int) + l2 := by omega
      have hg := grow_calls (l1 + l2) w (by omega) (by omega)
      rw [Int.natCast_add] at hg
      have HG := Aside0.mk hg
      clear hg
      go_wp2_with (first | (go_at_call 110; (with_reducible refine (HG.out).mono ?_); rintro _ w1 ⟨g1, cg, rfl, ho, hb⟩; have HO := Aside0.mk ho; have HB := Aside0.mk hb; clear ho hb))
      go_loopg [6, 27] 2 (fun kq v6 v27 w' => ∃ (i : Nat) (A : Option Addr) (n cap : Nat) (ys : List Value), v6 = .slice A n cap ∧ v27 = .int .i64 (i : Int) ∧ i + kq = 2 ∧ Aside0 (i = 0 → n = 0 ∧ ys = []) ∧ Aside0 (i = 1 → n = l1 ∧ ys = xs1) ∧ Aside0 (i = 2 → n = l1 + l2 ∧ ys = xs1 ++ xs2) ∧ Aside0 (w'.ownsRow w.heap.size 3 1 (.slice A n cap) n ys) ∧ Aside0 (Below w.heap.size w w'))
      case atStart => exact ⟨0, some ⟨g1, 0, none⟩, 0, cg, [], rfl, rfl, rfl, ⟨fun _ => ⟨rfl, rfl⟩⟩, ⟨fun h => by omega⟩, ⟨fun h => by omega⟩, HO, HB⟩
      case round =>
        clear HO HB
        obtain ⟨i, A, n, cap, ys, rfl, rfl, hk2, Y0, Y1, Y2, HO, SB⟩ := hrel
        have k0' := (SB.out.cell (p := ⟨h, 0, none⟩) hh).trans k0
        have k1' := (SB.out.cell (p := ⟨h, 1, none⟩) hh).trans k1
        obtain ⟨i0, hi0, hz0, hz1, hz2⟩ := info_parts int_info
        have hnb : ∀ (w2 : World), wr.grownBy w2 (Value.slice A n cap).ownBlock → Below w.heap.size w w2 := fun w2 hg => ⟨hg.os.trans SB.out.os, hg.tape.trans SB.out.tape, hg.output.trans SB.out.output, Nat.le_trans SB.out.size hg.size, fun k hk => by
          rw [hg.block k (Nat.lt_of_lt_of_le hk SB.out.size) (fun e => by have := own_base HO.out k e.symm; omega), SB.out.block k hk]⟩
        have HNB := Aside0.mk hnb
        clear hnb
        obtain rfl | rfl | rfl : i = 0 ∨ i = 1 ∨ i = 2 := by omega
        · obtain ⟨rfl, rfl⟩ := Y0.out rfl
          go_wp2_with (first | (at_builtin; refine wpList_append_lies _ rfl _ _ _ (by rfl) w.heap.size 3 i0 _ 1 8 Tryd.underlying63 hi0 hz0 hz1 hz2 rfl (by omega) (.slice A 0 cap) 0 ([]) (by rfl) HO.out ad1 l1 c1 xs1 (by rfl) (by have := E1.out; omega) (fun j u hu => (SB.out.cell (World.block_lt_of_cell? w _ (Q1.out j u hu))).trans (Q1.out j u hu)) (fun u hu => by obtain ⟨v, rfl, _⟩ := T1.out u hu; rfl) (by omega) (by simp only [maxLen]; omega) (by omega) SB.out.size wr.heap.size rfl ?_; intro gg cap1 w2 hown1 hgrow hat hlt1))
          go_roundg 1
          case measure => omega
          case rel => exact ⟨1, _, l1, cap1, xs1, by first | rfl | simp, rfl, rfl, ⟨fun h => by omega⟩, ⟨fun _ => ⟨rfl, rfl⟩⟩, ⟨fun h => by omega⟩, ⟨by simpa only [Nat.zero_add, List.nil_append] using hown1⟩, ⟨HNB.out _ hgrow⟩⟩
        · obtain ⟨hn1, hy1⟩ := Y1.out rfl
          subst hn1 hy1
          go_wp2_with (first | (at_builtin; refine wpList_append_lies _ rfl _ _ _ (by rfl) w.heap.size 3 i0 _ 1 8 Tryd.underlying63 hi0 hz0 hz1 hz2 rfl (by omega) (.slice A n cap) n (ys) (by rfl) HO.out ad2 l2 c2 xs2 (by rfl) (by have := E2.out; omega) (fun j u hu => (SB.out.cell (World.block_lt_of_cell? w _ (Q2.out j u hu))).trans (Q2.out j u hu)) (fun u hu => by obtain ⟨v, rfl, _⟩ := T2.out u hu; rfl) (by omega) (by simp only [maxLen]; omega) (by omega) SB.out.size wr.heap.size rfl ?_; intro gg cap1 w2 hown1 hgrow hat hlt1))
          go_roundg 0
          case measure => omega
          case rel => exact ⟨2, _, n + l2, cap1, ys ++ xs2, rfl, rfl, rfl, ⟨fun h => by omega⟩, ⟨fun h => by omega⟩, ⟨fun _ => ⟨rfl, rfl⟩⟩, ⟨hown1⟩, ⟨HNB.out _ hgrow⟩⟩
        · obtain ⟨rfl, rfl⟩ := Y2.out rfl
          go_wp2
          go_ret
          exact ⟨A, cap, rfl, own_move HO.out (fun k hk => (climb : Below wr.heap.size wr _).block k (own_lt HO.out k hk)), bl SB.out⟩
theorem concat_x (h N1 N2 : Nat) (A1 A2 : Option Addr) (ys1 ys2 : List Nat) (l1 c1 l2 c2 : Nat) (w : World) (k0 : w.cell? ⟨h, 0, none⟩ = some (.slice A1 l1 c1)) (k1 : w.cell? ⟨h, 1, none⟩ = some (.slice A2 l2 c2)) (s1 : Sx w N1 A1 l1 c1 ys1) (s2 : Sx w N2 A2 l2 c2 ys2) (b1 : l1 ≤ 400000) (b2 : l2 ≤ 400000) :
    Calls Tryd.prog 73 #[.slice (some ⟨h, 0, none⟩) 2 2] w fun r w' => ∃ A c, r = .returned (.slice A (l1 + l2) c) ∧ Sx w' w.heap.size A (l1 + l2) c (ys1 ++ ys2) ∧ Below w.heap.size w w' := by
  obtain ⟨ad1, rfl, e1, p1, d1, q1, t1, _⟩ := s1
  obtain ⟨ad2, rfl, e2, p2, d2, q2, t2, _⟩ := s2
  refine (concat_own h ad1 ad2 (nv ys1) (nv ys2) l1 c1 l2 c2 w k0 k1 (by rw [nv_len, e1]) (by rw [nv_len, e2]) p1 p2 q1 q2 (nv_sym t1) (nv_sym t2) d1 d2 b1 b2).mono ?_
  rintro _ w' ⟨A, c, rfl, ho, hb⟩
  rw [nv_app] at ho
  refine ⟨A, c, rfl, Sx.own ho (by omega) fun y hy => ?_, hb⟩
  rcases List.mem_append.1 hy with hy | hy
  · exact t1 y hy
  · exact t2 y hy
theorem sx_one (w : World) (y : Nat) {g : Nat} (h : g = w.heap.size) (y1 : y < 272) : Sx (w.alloc (.cells #[.int .i64 (y : Int)] 3)) w.heap.size (some ⟨g, 0, none⟩) 1 1 [y] := by
  subst h
  have hb := blk_new w (.cells #[.int .i64 (y : Int)] 3)
  refine ⟨⟨w.heap.size, 0, none⟩, rfl, rfl, by omega, by omega, fun j u hu => ?_, fun u hu => ?_, Nat.le_refl _, _, _, hb⟩
  · match j, hu with
    | 0, hu =>
      obtain rfl : Value.int .i64 (y : Int) = u := by simpa [nv] using hu
      exact (blk_cell hb 0).trans rfl
  · rw [List.mem_singleton.1 hu]; exact y1
/-- A row of bundles, one by one. -/
def Lx (w : World) (B N : Nat) (A : Option Addr) (cap M : Nat) (bs : List (Nat × List Nat)) : Prop := ∃ xs, w.ownsRow B 137 2 (.slice A bs.length cap) bs.length xs ∧ ∀ i b, bs[i]? = some b → ∃ (A' : Option Addr) (l c : Nat), xs[i * 2]? = some (.int .i64 (b.1 : Int)) ∧ xs[i * 2 + 1]? = some (.slice A' l c) ∧ Sx w N A' l c b.2 ∧ l ≤ M ∧ b.1 ≤ 1000000 * M
theorem Lx.nil (w : World) (B N M : Nat) : Lx w B N none 0 M [] := ⟨[], World.ownsRow_nil _ _ _ _, fun i b h => by simp at h⟩
theorem Lx.cap_ {B N cap M : Nat} {A : Option Addr} {bs : List (Nat × List Nat)} (h : Lx w B N A cap M bs) : bs.length ≤ cap := by
  obtain ⟨xs, ho, hx⟩ := h
  rcases ho.2 with ⟨_, e⟩ | ⟨g, cap', cur, hv, hB, hh, hnc, _⟩
  · omega
  · simp only [Value.slice.injEq] at hv
    obtain ⟨_, _, rfl⟩ := hv
    exact hnc
/-- A bundle more. -/
theorem Lx.stored {B N cap M : Nat} {A : Option Addr} {bs : List (Nat × List Nat)} {xs : List Value} {w2 w1 : World} {gg cap1 : Nat} {b : Nat × List Nat} {A' : Option Addr} {l c : Nat} (ho : w.ownsRow B 137 2 (.slice A bs.length cap) bs.length xs) (hx : ∀ i b, bs[i]? = some b → ∃ (A' : Option Addr) (l c : Nat), xs[i * 2]? = some (.int .i64 (b.1 : Int)) ∧ xs[i * 2 + 1]? = some (.slice A' l c) ∧ Sx w N A' l c b.2 ∧ l ≤ M ∧ b.1 ≤ 1000000 * M)
    (hb : Below w.heap.size w w2) (hg : w2.grownBy w1 (Value.slice A bs.length cap).ownBlock) (hw : w1.ownsRow B 137 2 (.slice (some ⟨gg, 0, none⟩) (bs.length + 1) cap1) (bs.length + 1) (xs ++ [.int .i64 (b.1 : Int), .slice A' l c])) (hz : Sx w N A' l c b.2) (hl : l ≤ M) (hm : b.1 ≤ 1000000 * M) : Lx w1 B N (some ⟨gg, 0, none⟩) cap1 M (bs ++ [b]) := by
  have ht := T3.grown ho hb hg
  have hlen : xs.length = bs.length * 2 := ho.1
  refine ⟨_, by rw [List.length_append]; exact hw, fun i b' hi => ?_⟩
  by_cases hin : i < bs.length
  · rw [List.getElem?_append_left hin] at hi
    obtain ⟨A2, l', c', e1, e2, hz', hl', hm'⟩ := hx i b' hi
    exact ⟨A2, l', c', by rw [List.getElem?_append_left (by omega)]; exact e1, by rw [List.getElem?_append_left (by omega)]; exact e2, hz'.t3 ht, hl', hm'⟩
  · rw [List.getElem?_append_right (by omega)] at hi
    have hi0 : i = bs.length := by
      have := (List.getElem?_eq_some_iff.1 hi).1
      simp at this
      omega
    subst hi0
    obtain rfl : b = b' := by simpa using hi
    refine ⟨A', l, c, ?_, ?_, hz.t3 ht, hl, hm⟩
    · rw [List.getElem?_append_right (by omega), show bs.length * 2 - xs.length = 0 from by omega]; rfl
    · rw [List.getElem?_append_right (by omega), show bs.length * 2 + 1 - xs.length = 1 from by omega]; rfl
/-- A row of bundles, read alone. -/
def Rx (w : World) (N : Nat) (A : Option Addr) (M : Nat) (bs : List (Nat × List Nat)) : Prop := bs = [] ∨ ∃ g cs, A = some ⟨g, 0, none⟩ ∧ w.heap[g]? = some (.cells cs 137 (0, 0)) ∧ 2 * bs.length ≤ cs.size ∧ ∀ i b, bs[i]? = some b → ∃ (A' : Option Addr) (l c : Nat), cs[2 * i]? = some (.int .i64 (b.1 : Int)) ∧ cs[2 * i + 1]? = some (.slice A' l c) ∧ Sx w N A' l c b.2 ∧ l ≤ M ∧ b.1 ≤ 1000000 * M
theorem Rx.up {N M : Nat} {A : Option Addr} {bs : List (Nat × List Nat)} (h : Rx w N A M bs) (k : Below w.heap.size w w') : Rx w' N A M bs := by
  rcases h with h | ⟨g, cs, h1, h2, h3, h4⟩
  · exact .inl h
  · refine .inr ⟨g, cs, h1, blk_below h2 k, h3, fun i b hi => ?_⟩
    obtain ⟨A', l, c, e1, e2, e3, e4⟩ := h4 i b hi
    exact ⟨A', l, c, e1, e2, e3.t3 (T3.ofBelow k), e4⟩
theorem Rx.at_ {N M : Nat} {A : Option Addr} {bs : List (Nat × List Nat)} (h : Rx w N A M bs) {i : Nat} {b : Nat × List Nat} (hi : bs[i]? = some b) : ∃ (g : Nat) (A' : Option Addr) (l c : Nat), A = some ⟨g, 0, none⟩ ∧ w.cell? ⟨g, i * 2, none⟩ = some (.int .i64 (b.1 : Int)) ∧ w.cell? ⟨g, i * 2 + 1, none⟩ = some (.slice A' l c) ∧ Sx w N A' l c b.2 ∧ l ≤ M ∧ b.1 ≤ 1000000 * M := by
  rcases h with h | ⟨g, cs, h1, h2, h3, h4⟩
  · subst h; simp at hi
  · obtain ⟨A', l, c, e1, e2, e3, e4⟩ := h4 i b hi
    exact ⟨g, A', l, c, h1, (blk_cell h2 (i * 2)).trans (by rw [Nat.mul_comm]; exact e1), (blk_cell h2 (i * 2 + 1)).trans (by rw [Nat.mul_comm]; exact e2), e3, e4⟩
end Go.Proofs.YtefhcgnamfnkbaaDoor.Pr
