/- A block of integers; squash.codes, walked by hand. -/
import Derived.Test.YtefhcgnamfnkbaaDoorSqa
import Derived.Laws.MakeOwn
namespace Go.Proofs.YtefhcgnamfnkbaaDoor.Pr
open Go.RowKit Go.Proofs.YtefhcgnamfnkbaaDoorW.PrintWords Go.Proofs.YtefhcgnamfnkbaaDoorW.PrintLast Go.Proofs.YtefhcgnamfnkbaaDoorW.PrintMore
set_option linter.unusedVariables false
set_option linter.unusedSimpArgs false

theorem int_info : (Tryd.prog.info? 3).map (fun i => (i.zero, i.size, i.bytes)) = some (some (.int .i64 0), 1, 8) := by kernel_rfl
theorem make_ints (n : Nat) (hn : n ≤ 1000000000) (w : World) : (Instr.makeSlice 63 (.int .i64 (n : Int)) (.int .i64 (n : Int))).run Tryd.prog w = .ok (.slice (some ⟨w.heap.size, 0, none⟩) n n) (w.alloc (.cells (madeCells #[.int .i64 0] n) 3)) := by
  obtain ⟨i0, hi0, hz0, hz1, hz2⟩ := info_parts int_info
  have h := run_make (P := Tryd.prog) w 63 3 i0 (.int .i64 0) Tryd.underlying63 hi0 hz0 .i64 .i64 (n : Int) (n : Int) (by omega) (Int.le_refl _) (by rw [hz2]; omega) (by omega)
  rw [hz1] at h
  simp only [Int.toNat_natCast, Nat.mul_one] at h
  exact h
/-- A block of N integers, each of which is P. -/
def Iv (w : World) (g N : Nat) (P : Int → Prop) : Prop := ∃ cs : Array Value, w.heap[g]? = some (.cells cs 3 (0, 0)) ∧ cs.size = N ∧ ∀ j, j < N → ∃ v, cs[j]? = some (.int .i64 v) ∧ P v
variable {w w' : World} {g N : Nat} {P P' : Int → Prop}
theorem Iv.up (h : Iv w g N P) (k : Below w.heap.size w w') : Iv w' g N P := by
  obtain ⟨cs, h1, h2, h3⟩ := h
  exact ⟨cs, blk_below h1 k, h2, h3⟩
theorem Iv.lt (h : Iv w g N P) : g < w.heap.size := by
  obtain ⟨cs, h1, h2, h3⟩ := h
  exact blk_lt h1
theorem Iv.at_ (h : Iv w g N P) {j : Nat} (hj : j < N) : ∃ v, w.cell? ⟨g, j, none⟩ = some (.int .i64 v) ∧ P v := by
  obtain ⟨cs, h1, h2, h3⟩ := h
  obtain ⟨v, e, p⟩ := h3 j hj
  exact ⟨v, (blk_cell h1 j).trans e, p⟩
theorem Iv.free (h : Iv w g N P) (j : Nat) : w.frozen? ⟨g, j, none⟩ = false := by
  obtain ⟨cs, h1, h2, h3⟩ := h
  exact blk_frozen h1 j
theorem Iv.put (h : Iv w g N P) (j : Nat) {v : Int} (hv : P v) : Iv (w.setCell ⟨g, j, none⟩ (.int .i64 v)) g N P := by
  obtain ⟨cs, h1, h2, h3⟩ := h
  refine ⟨cs.setIfInBounds j (.int .i64 v), blk_put h1 j _ rfl, by simp [h2], fun i hi => ?_⟩
  by_cases hij : j = i
  · subst hij
    exact ⟨v, by simp [Array.getElem?_setIfInBounds, h2, hi], hv⟩
  · obtain ⟨u, e, p⟩ := h3 i hi
    exact ⟨u, by simp [Array.getElem?_setIfInBounds, hij, e], p⟩
theorem Iv.far (h : Iv w g N P) {a : Addr} (hg : g ≠ a.block) (u : Value) : Iv (w.setCell a u) g N P := by
  obtain ⟨cs, h1, h2, h3⟩ := h
  exact ⟨cs, blk_far h1 hg u, h2, h3⟩
theorem Iv.ap (h : Iv w g N P) {q : Nat} (k : Ap w.heap.size q w w') (hg : g ≠ q) : Iv w' g N P := by
  obtain ⟨cs, h1, h2, h3⟩ := h
  exact ⟨cs, (k.block g (blk_lt h1) hg).trans h1, h2, h3⟩
theorem Iv.imp (h : Iv w g N P) (hp : ∀ v, P v → P' v) : Iv w g N P' := by
  obtain ⟨cs, h1, h2, h3⟩ := h
  refine ⟨cs, h1, h2, fun j hj => ?_⟩
  obtain ⟨v, e, p⟩ := h3 j hj
  exact ⟨v, e, hp v p⟩
theorem Iv.made (w : World) (n : Nat) (h : P 0) : Iv (w.alloc (.cells (madeCells #[.int .i64 0] n) 3)) w.heap.size n P := by
  refine ⟨_, blk_new w _, size_madeCells _ _, fun j hj => ⟨0, ?_, h⟩⟩
  rw [← Array.getElem?_toList, toList_madeCells_one, List.getElem?_replicate, if_pos hj]
set_option maxHeartbeats 4000000 in
set_option maxRecDepth 100000 in
theorem codes_calls (g : Nat) (w : World) (h : Iv w g 272 P) :
    Calls Tryd.prog 31 #[.slice (some ⟨g, 0, none⟩) 272 272] w fun r w' => ∃ q ok, r = .returned (.tuple #[.slice (some ⟨q, 0, none⟩) 272 272, .bool ok]) ∧ Iv w' q 272 (fun _ => True) ∧ Below w.heap.size w w' := by
  have H := Aside0.mk h
  have hlt := h.lt
  clear h
  have hmk : ∀ w, (Instr.makeSlice 63 (.int .i64 272) (.int .i64 272)).run Tryd.prog w = .ok (.slice (some ⟨w.heap.size, 0, none⟩) 272 272) (w.alloc (.cells (madeCells #[.int .i64 0] 272) 3)) := fun w => make_ints 272 (by omega) w
  go_enter Tryd.func31, Tryd.ntmps31
  go_wp2_with (fail)
  go_loopg [5, 6, 7] 15 (fun kq v5 v6 v7 w' => ∃ (m : Nat) (c s : Int), v5 = .int .i64 c ∧ v6 = .int .i64 s ∧ v7 = .int .i64 (m : Int) ∧ m + kq = 16 ∧ 1 ≤ m ∧ Aside0 (Iv w' w.heap.size 272 (fun _ => True)) ∧ Aside0 (Below w.heap.size w w'))
  case atStart => exact ⟨1, 0, 0, rfl, rfl, rfl, by omega, by omega, ⟨Iv.made w 272 trivial⟩, ⟨climb⟩⟩
  case round =>
    obtain ⟨m, c, s, rfl, rfl, rfl, hk, hm1, S, SB⟩ := hrel
    by_cases hm : m ≤ 15
    · obtain ⟨g1, hg1⟩ : ∃ g1, gk = g1 + 1 := ⟨gk - 1, by omega⟩
      have HG := Aside0.mk hg1
      clear hg1
      go_wp2_with (fail)
      go_loopg [5, 6, 19] 272 (fun kq v5 v6 v19 w' => ∃ (e : Nat) (c s : Int), v5 = .int .i64 c ∧ v6 = .int .i64 s ∧ v19 = .int .i64 (e : Int) ∧ e + kq = 272 ∧ Aside0 (Iv w' w.heap.size 272 (fun _ => True)) ∧ Aside0 (Below w.heap.size w w'))
      case atStart => exact ⟨0, _, s, rfl, rfl, rfl, by omega, S, SB⟩
      case round =>
        clear S SB
        obtain ⟨e, c1, s1, rfl, rfl, rfl, hk2, S, SB⟩ := hrel
        by_cases he : e < 272
        · obtain ⟨g2, hg2⟩ : ∃ g2, gk = g2 + 1 := ⟨gk - 1, by omega⟩
          have HG2 := Aside0.mk hg2
          clear hg2
          obtain ⟨v, cv, pv⟩ := (H.out.up (bl SB.out)).at_ he
          have fr := S.out.free e
          obtain ⟨vo, co, _⟩ := S.out.at_ he
          clear pv
          by_cases hv : v = (m : Int)
          · have qv : (v == (m : Int)) = true := beq_iff_eq.2 hv
            clear hv
            go_wp2_with (fail)
            go_roundg g2
            case measure => have := HG2.out; omega
            case rel => have := HG2.out; exact ⟨e + 1, _, _, rfl, rfl, by go_num, by omega, ⟨S.out.put e trivial⟩, ⟨below_set SB.out (Nat.le_refl _)⟩⟩
          · have qv : (v == (m : Int)) = false := beq_eq_false_iff_ne.2 hv
            clear hv
            go_wp2_with (fail)
            go_roundg g2
            case measure => have := HG2.out; omega
            case rel => have := HG2.out; exact ⟨e + 1, _, _, rfl, rfl, by go_num, by omega, S, SB⟩
        · go_wp2
          go_roundg g1
          case measure => have := HG.out; omega
          case rel => have := HG.out; exact ⟨m + 1, _, _, rfl, rfl, by go_num, by omega, by omega, S, SB⟩
    · go_wp2
      go_ret2
      exact ⟨w.heap.size, _, rfl, S.out.up climb, bl SB.out⟩
end Go.Proofs.YtefhcgnamfnkbaaDoor.Pr
