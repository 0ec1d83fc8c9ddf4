/- axis.writer.put, walked by hand. -/
import Derived.Test.YtefhcgnamfnkbaaDoorWr
namespace Go.Proofs.YtefhcgnamfnkbaaDoor.Pr
open Go.RowKit Go.Proofs.YtefhcgnamfnkbaaDoorW.PrintWords Go.Proofs.YtefhcgnamfnkbaaDoorW.PrintLast Go.Proofs.YtefhcgnamfnkbaaDoorW.PrintMore

/-- One step more that keeps. -/
def mend (l : List S127) (n : Int) : List S127 := match l.getLast? with
  | some s => if s.f0 = 0 then l.dropLast ++ [⟨0, wrap64 (s.f1 + n)⟩] else l ++ [⟨0, n⟩]
  | none => l ++ [⟨0, n⟩]
/-- What the writer holds behind put. -/
def putN (l : List S127) (a c kind n : Int) : List S127 × Int × Int :=
  if n = 0 then (l, a, c) else if kind = 1 then (l, wrap64 (a + n), c) else if kind = 2 then (l, a, wrap64 (c + n)) else (mend (l ++ adds 1 a ++ adds 2 c) n, 0, 0)
/-- A cell of an own row is set. -/
theorem own_set {B : Nat} {w : World} {g1 cap n j : Nat} {xs : List Value} {u : Value} (h : w.ownsRow B 127 2 (.slice (some ⟨g1, 0, none⟩) n cap) n xs) (_ : j < n * 2) (_ : u.oneCell' = true) : (w.setCell ⟨g1, j, none⟩ u).ownsRow B 127 2 (.slice (some ⟨g1, 0, none⟩) n cap) n (xs.set j u) := by
  obtain ⟨hx, h2⟩ := h
  rcases h2 with ⟨h, _⟩ | ⟨g', cap', cur, hv, hb, hh, h3, h4, h5, h6⟩
  · cases h
  · simp only [Value.slice.injEq, Option.some.injEq, Addr.mk.injEq, and_true, true_and] at hv
    obtain ⟨rfl, rfl⟩ := hv
    refine ⟨by rw [List.length_set]; exact hx, .inr ⟨g1, cap, cur.setIfInBounds j u, rfl, hb, blk_set hh j u, h3, h4, by simpa using h5, ?_⟩⟩
    rw [← h6]
    simp [List.take_set, Array.toList_setIfInBounds]
theorem flat_last (r : List S127) (s : S127) : flat (r ++ [s]) = flat r ++ [.int .i64 s.f0, .int .i64 s.f1] := by rw [flat_app]; rfl
theorem flat_set (r : List S127) (s : S127) (x : Int) : (flat (r ++ [s])).set (r.length * 2 + 1) (.int .i64 x) = flat (r ++ [⟨s.f0, x⟩]) := by
  rw [flat_last, flat_last, List.set_append_right _ _ (by rw [flat_len]; omega), flat_len]
  rw [show r.length * 2 + 1 - r.length * 2 = 1 from by omega]
  rfl
theorem own_form {w : World} {B : Nat} {A : Option Addr} {cap : Nat} {r : List S127} {s : S127} (h : w.ownsRow B 127 2 (.slice A (r ++ [s]).length cap) (r ++ [s]).length (flat (r ++ [s]))) :
    ∃ g1, A = some ⟨g1, 0, none⟩ ∧ B ≤ g1 ∧ g1 < w.heap.size ∧ (∃ cur, w.heap[g1]? = some (.cells cur 127 (0, 0))) ∧ w.cell? ⟨g1, r.length * 2, none⟩ = some (.int .i64 s.f0) ∧ w.cell? ⟨g1, r.length * 2 + 1, none⟩ = some (.int .i64 s.f1) := by
  rcases h.2 with ⟨_, h0⟩ | ⟨g1, cap', cur, hv, hb, hh, h3, h4, h5, h6⟩
  · simp at h0
  · simp only [Value.slice.injEq] at hv
    obtain ⟨rfl, _, rfl⟩ := hv
    have hc := h.cells (g := g1) rfl
    have add0 : ∀ j, (⟨g1, 0, none⟩ : Addr).add j = ⟨g1, j, none⟩ := fun j => by unfold Addr.add; split <;> simp_all
    refine ⟨g1, rfl, hb, blk_lt hh, ⟨cur, hh⟩, ?_, ?_⟩
    · rw [← add0]; exact hc _ _ (by rw [flat_last, List.getElem?_append_right (by rw [flat_len]; omega), flat_len, Nat.sub_self]; rfl)
    · rw [← add0]; exact hc _ _ (by rw [flat_last, List.getElem?_append_right (by rw [flat_len]; omega), flat_len, show r.length * 2 + 1 - r.length * 2 = 1 from by omega]; rfl)
set_option maxHeartbeats 2000000 in
set_option maxRecDepth 100000 in
theorem put_calls (B g : Nat) (l : List S127) (a c kind n : Int) (w : World) (h : Wr B w g l a c) (hl : l.length + 3 ≤ 1099511627776) :
    Calls Tryd.prog 64 #[.pointer (some ⟨g, 0, none⟩), .int .i64 kind, .int .i64 n] w fun x w' => x = .returned (.tuple #[]) ∧ Wr B w' g (putN l a c kind n).1 (putN l a c kind n).2.1 (putN l a c kind n).2.2 ∧ Ap B g w w' := by
  have hW := Aside0.mk h
  unfold putN
  by_cases hn : n = 0
  · rw [if_pos hn]
    clear h
    go_enter Tryd.func64, Tryd.ntmps64
    go_wp2
    go_end0
    exact ⟨rfl, hW.out, Ap.refl _ _ _⟩
  rw [if_neg hn]
  by_cases h1 : kind = 1
  · rw [if_pos h1]
    obtain ⟨A, cap, k1, k2, k3, k4⟩ := h
    have K1 := Aside0.mk k1
    have K4 := Aside0.mk k4
    have c1 : w.cell? ⟨g, 1, none⟩ = some (.int .i64 a) := (blk_cell k1 1).trans rfl
    have f1 := blk_frozen k1 1
    clear k1 k4
    go_enter Tryd.func64, Tryd.ntmps64
    go_wp2
    go_end0
    exact ⟨rfl, ⟨A, cap, blk_put K1.out 1 _ rfl, k2, by rw [World.size_setCell]; exact k3, own_set1 K4.out k2⟩, ap_set1 (Ap.refl _ _ _)⟩
  rw [if_neg h1]
  by_cases h2 : kind = 2
  · rw [if_pos h2]
    obtain ⟨A, cap, k1, k2, k3, k4⟩ := h
    have K1 := Aside0.mk k1
    have K4 := Aside0.mk k4
    have c2 : w.cell? ⟨g, 2, none⟩ = some (.int .i64 c) := (blk_cell k1 2).trans rfl
    have f2 := blk_frozen k1 2
    clear k1 k4
    go_enter Tryd.func64, Tryd.ntmps64
    go_wp2
    go_end0
    exact ⟨rfl, ⟨A, cap, blk_put K1.out 2 _ rfl, k2, by rw [World.size_setCell]; exact k3, own_set1 K4.out k2⟩, ap_set1 (Ap.refl _ _ _)⟩
  rw [if_neg h2]
  obtain ⟨l2, hl2⟩ : ∃ l2, l2 = l ++ adds 1 a ++ adds 2 c := ⟨_, rfl⟩
  rw [← hl2]
  have hlen : l2.length + 1 ≤ 1099511627776 := by rw [hl2, List.length_append, List.length_append]; have := adds_len 1 a; have := adds_len 2 c; omega
  have HL := Aside0.mk hl2
  clear hl2
  clear h
  go_enter Tryd.func64, Tryd.ntmps64
  go_upto_region 1 with ((go_at_call 107; (with_reducible refine (flush_calls B g l a c _ (hW.out.up climb) (by omega)).mono ?_); rintro _ w1 ⟨rfl, h1, h2⟩))
  rw [← HL.out] at h1
  have HA1 := Aside0.mk h2
  obtain ⟨A, cap, k1, k2, k3, k4⟩ := h1
  have K1 := Aside0.mk k1
  have K4 := Aside0.mk k4
  have c0 : w1.cell? ⟨g, 0, none⟩ = some (.slice A l2.length cap) := (blk_cell k1 0).trans rfl
  have f0 := blk_frozen k1 0
  have lg := blk_lt k1
  clear h2 k1 k4 hW HL
  obtain ⟨i0, hi0, hz0, hz1, hz2⟩ := info_parts step_info
  rcases List.eq_nil_or_concat l2 with he | ⟨r, s, he⟩
  · have h0 : l2.length = 0 := by rw [he]; rfl
    have HM : Aside0 (mend l2 n = l2 ++ [⟨0, n⟩]) := ⟨by rw [he]; rfl⟩
    clear he
    have hw : IntKind.i64.wrap ((l2.length : Int) - 1) = -1 := by rw [h0]; decide
    clear h0
    go_wp2_with (first | (at_builtin; refine wpList_append_lies _ rfl _ _ _ (by rfl) B 127 i0 _ 2 16 Tryd.underlying52 hi0 hz0 hz1 hz2 rfl (by omega) (.slice A l2.length cap) l2.length (flat l2) (by rfl) (K4.out.alloc _) ⟨w1.heap.size, 0, none⟩ 1 1 [.int .i64 0, .int .i64 n] (by rfl) (by rfl) (World.news_of_block (cs := #[.int .i64 0, .int .i64 n]) (t := 127) (fr := (0, 0)) (heap_alloc_new w1 _)) (by simp [Value.oneCell']) (by omega) (by simp only [maxLen]; omega) (by omega) (by simp; omega) (w1.heap.size + 1) (by simp) ?_; intro gg cap1 w2 hown1 hgrow hat hlt; have hk1 := Aside0.mk (blk_of_own K1.out K4.out k2 climb hgrow); have d0 := (blk_cell hk1.out 0).trans rfl; have e0 := blk_frozen hk1.out 0))
    all_goals
      (try go_wp2)
      go_end0
      have ho : w2.ownsRow B 127 2 (.slice (some ⟨gg, 0, none⟩) (l2 ++ [(⟨0, n⟩ : S127)]).length cap1) (l2 ++ [(⟨0, n⟩ : S127)]).length (flat (l2 ++ [(⟨0, n⟩ : S127)])) := by
        rw [flat_app, List.length_append]; exact hown1
      have hs := (Wr.stored K1.out k2 k3 K4.out climb hgrow ho).2
      rw [HM.out]
      simp only [List.length_append, List.length_singleton] at hs
      exact ⟨rfl, hs.1, HA1.out.trans hs.2⟩
  · rw [List.concat_eq_append] at he
    have h0 : l2.length = r.length + 1 := by rw [he]; simp
    have hw : IntKind.i64.wrap ((l2.length : Int) - 1) = (r.length : Int) := by rw [show ((l2.length : Int) - 1) = (r.length : Int) from by omega]; exact IntWalk.i64_in _ (by omega)
    have K4' := K4.out
    rw [he] at K4'
    obtain ⟨g1, rfl, hg1, hlg, ⟨cur, hcur⟩, m0, m1⟩ := own_form K4'
    have hF := blk_frozen hcur (r.length * 2 + 1)
    have hne : g ≠ g1 := by omega
    have HE := Aside0.mk he
    have HC := Aside0.mk hcur
    clear he hcur K4'
    have i0' : (0 : Int) ≤ (r.length : Int) := Int.natCast_nonneg _
    have i1' : (r.length : Int) < (l2.length : Int) := by omega
    clear h0
    by_cases hk : s.f0 = 0
    · have HM : Aside0 (mend l2 n = r ++ [⟨0, wrap64 (s.f1 + n)⟩]) := ⟨by unfold mend; rw [HE.out, List.getLast?_append]; simp [hk]⟩
      go_wp2
      refine bodyPost_ret (results_none rfl _ _ _) rfl ?_
      have ho := own_set (j := r.length * 2 + 1) (u := .int .i64 (wrap64 (s.f1 + n))) K4.out (by omega) rfl
      have hf : (flat l2).set (r.length * 2 + 1) (.int .i64 (wrap64 (s.f1 + n))) = flat (r ++ [(⟨0, wrap64 (s.f1 + n)⟩ : S127)]) := by rw [HE.out, flat_set, hk]
      have hlen : l2.length = (r ++ [(⟨0, wrap64 (s.f1 + n)⟩ : S127)]).length := by rw [HE.out]; simp
      rw [hf, hlen] at ho
      have hk1 := blk_far K1.out (p := ⟨g1, r.length * 2 + 1, none⟩) hne (.int .i64 (wrap64 (s.f1 + n)))
      rw [hlen] at hk1
      rw [HM.out]
      refine ⟨rfl, ⟨_, _, hk1, k2, by rw [World.size_setCell]; exact k3, ho⟩, HA1.out.trans ⟨rfl, rfl, rfl, by rw [World.size_setCell]; exact Nat.le_refl _, fun i hi hig => Below.heap_setCell w1 ⟨g1, r.length * 2 + 1, none⟩ _ i (by show i ≠ g1; omega)⟩⟩
    · have HM : Aside0 (mend l2 n = l2 ++ [⟨0, n⟩]) := ⟨by unfold mend; rw [HE.out, List.getLast?_append]; simp [hk]⟩
      go_wp2_with (first | (at_builtin; refine wpList_append_lies _ rfl _ _ _ (by rfl) B 127 i0 _ 2 16 Tryd.underlying52 hi0 hz0 hz1 hz2 rfl (by omega) (.slice (some ⟨g1, 0, none⟩) l2.length cap) l2.length (flat l2) (by rfl) (K4.out.alloc _) ⟨w1.heap.size, 0, none⟩ 1 1 [.int .i64 0, .int .i64 n] (by rfl) (by rfl) (World.news_of_block (cs := #[.int .i64 0, .int .i64 n]) (t := 127) (fr := (0, 0)) (heap_alloc_new w1 _)) (by simp [Value.oneCell']) (by omega) (by simp only [maxLen]; omega) (by omega) (by simp; omega) (w1.heap.size + 1) (by simp) ?_; intro gg cap1 w2 hown1 hgrow hat hlt; have hk1 := Aside0.mk (blk_of_own K1.out K4.out k2 climb hgrow); have d0 := (blk_cell hk1.out 0).trans rfl; have e0 := blk_frozen hk1.out 0))
      all_goals
        (try go_wp2)
        go_end0
        have ho : w2.ownsRow B 127 2 (.slice (some ⟨gg, 0, none⟩) (l2 ++ [(⟨0, n⟩ : S127)]).length cap1) (l2 ++ [(⟨0, n⟩ : S127)]).length (flat (l2 ++ [(⟨0, n⟩ : S127)])) := by
          rw [flat_app, List.length_append]; exact hown1
        have hs := (Wr.stored K1.out k2 k3 K4.out climb hgrow ho).2
        rw [HM.out]
        simp only [List.length_append, List.length_singleton] at hs
        exact ⟨rfl, hs.1, HA1.out.trans hs.2⟩
end Go.Proofs.YtefhcgnamfnkbaaDoor.Pr
