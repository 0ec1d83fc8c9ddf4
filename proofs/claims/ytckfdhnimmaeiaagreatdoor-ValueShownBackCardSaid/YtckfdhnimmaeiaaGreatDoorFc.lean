/- value.zeros of any value (printed by wip/tools/mkzeros.py). -/
import Derived.Test.YtckfdhnimmaeiaaGreatDoorFab
namespace Go.Proofs.YtckfdhnimmaeiaaGreatDoor.Pr
open Go.RowKit Go.Proofs.YtckfdhnimmaeiaaGreatDoorW.PrintWords Go.Proofs.YtckfdhnimmaeiaaGreatDoorW.PrintLast Go.Proofs.YtckfdhnimmaeiaaGreatDoorW.PrintMore
set_option linter.unusedVariables false
set_option linter.unusedSimpArgs false
theorem eqA30 (d : Nat) (w : World) (x0 y0 : ByteArray) (x1 y1 : ByteArray) :
    (Op.equalIn (d + 2) 30 (.agg #[.string x0, .string x1]) (.agg #[.string y0, .string y1])).run Tryz.prog w = .ok (x0.toList == y0.toList && (x1.toList == y1.toList)) w := by
  refine eqA_of Tryz.underlying30 (by kernel_rfl) ?_
  refine eqf_cons (by rfl) (by go_simp; rfl) (by go_simp; rfl) (by go_simp) ?_
  exact eqf_last (by rfl) (by go_simp; rfl) (by go_simp; rfl) (by go_simp)
attribute [local go_sem high] eqA30
theorem val_cells {w : World} {g : Nat} {k c r q : Int} {t o s : ByteArray} {b : Bool} {x : Value} (h : w.heap[g]? = some (.cells #[.int .i64 k, .string t, .string o, .string s, .bool b, .int .i64 c, .int .i64 r, .int .i64 q, x] 33 (0, 0))) :
    w.cell? ⟨g, 0, none⟩ = some (.int .i64 k) ∧ w.cell? ⟨g, 1, none⟩ = some (.string t) ∧ w.cell? ⟨g, 2, none⟩ = some (.string o) ∧ w.cell? ⟨g, 3, none⟩ = some (.string s) ∧ w.cell? ⟨g, 4, none⟩ = some (.bool b) ∧ w.cell? ⟨g, 5, none⟩ = some (.int .i64 c) ∧ w.cell? ⟨g, 6, none⟩ = some (.int .i64 r) ∧ w.cell? ⟨g, 7, none⟩ = some (.int .i64 q) ∧ w.cell? ⟨g, 8, none⟩ = some x :=
  ⟨(blk_cell h 0).trans rfl, (blk_cell h 1).trans rfl, (blk_cell h 2).trans rfl, (blk_cell h 3).trans rfl, (blk_cell h 4).trans rfl, (blk_cell h 5).trans rfl, (blk_cell h 6).trans rfl, (blk_cell h 7).trans rfl, (blk_cell h 8).trans rfl⟩
theorem ne_empty {s : ByteArray} (h : s ≠ ⟨#[]⟩) : s.toList.isEmpty = false ∧ (s.toList == []) = false := by
  have h1 : s.toList ≠ [] := fun e => h (by
    rw [ByteArray.toList_eq] at e
    obtain ⟨d⟩ := s
    congr 1
    exact Array.toList_eq_nil_iff.1 e)
  cases hl : s.toList with
  | nil => exact absurd hl h1
  | cons x l => exact ⟨rfl, rfl⟩
/-- Fields that the kind gives no meaning are zero. -/
def Zr (k : Int) (t o s : ByteArray) (b : Bool) (c r q : Int) (n : Nat) : Prop := (k = 1 ∨ (t = ⟨#[]⟩ ∧ o = ⟨#[]⟩)) ∧ (k = 2 ∨ s = ⟨#[]⟩) ∧ (k = 3 ∨ b = false) ∧ (k = 4 ∨ c = 0) ∧ (k = 5 ∨ (r = 0 ∧ q = 0 ∧ n = 0))
set_option maxHeartbeats 8000000 in
set_option maxRecDepth 100000 in
theorem zeros_0 (t o s : ByteArray) (b : Bool) (c r q : Int) (p : Option Addr) (n cap : Nat) :
    ∃ e : Int, (∀ w, Calls Tryz.prog 18 #[.agg #[.int .i64 0, .string t, .string o, .string s, .bool b, .int .i64 c, .int .i64 r, .int .i64 q, .slice p n cap]] w fun x w' => x = .returned (.int .i64 e) ∧ Below w.heap.size w w') ∧ (e = 0 → Zr 0 t o s b c r q n) := by
  by_cases h : t = ⟨#[]⟩
  case neg =>
    obtain ⟨h1, h2⟩ := ne_empty h
    clear h
    refine ⟨4, fun w => ?_, fun h => absurd h (by decide)⟩
    go_enter Tryz.func18, Tryz.ntmps18
    go_upto_region 1 with (fail)
    obtain ⟨g, W, hg, hW, K, B⟩ := box33 w (zv 0 t o s b c r q p n cap)
    rw [hW, hg]
    clear hW hg
    obtain ⟨c0, c1, c2, c3, c4, c5, c6, c7, c8⟩ := val_cells K.out
    go_wp2
    go_ret
    exact ⟨rfl, bl B.out⟩
  subst h
  by_cases h : o = ⟨#[]⟩
  case neg =>
    obtain ⟨h1, h2⟩ := ne_empty h
    clear h
    refine ⟨4, fun w => ?_, fun h => absurd h (by decide)⟩
    go_enter Tryz.func18, Tryz.ntmps18
    go_upto_region 1 with (fail)
    obtain ⟨g, W, hg, hW, K, B⟩ := box33 w (zv 0 ⟨#[]⟩ o s b c r q p n cap)
    rw [hW, hg]
    clear hW hg
    obtain ⟨c0, c1, c2, c3, c4, c5, c6, c7, c8⟩ := val_cells K.out
    go_wp2
    go_ret
    exact ⟨rfl, bl B.out⟩
  subst h
  by_cases h : s = ⟨#[]⟩
  case neg =>
    obtain ⟨h1, h2⟩ := ne_empty h
    clear h
    refine ⟨4, fun w => ?_, fun h => absurd h (by decide)⟩
    go_enter Tryz.func18, Tryz.ntmps18
    go_upto_region 1 with (fail)
    obtain ⟨g, W, hg, hW, K, B⟩ := box33 w (zv 0 ⟨#[]⟩ ⟨#[]⟩ s b c r q p n cap)
    rw [hW, hg]
    clear hW hg
    obtain ⟨c0, c1, c2, c3, c4, c5, c6, c7, c8⟩ := val_cells K.out
    go_wp2
    go_ret
    exact ⟨rfl, bl B.out⟩
  subst h
  cases b
  case true =>
    refine ⟨4, fun w => ?_, fun h => absurd h (by decide)⟩
    go_enter Tryz.func18, Tryz.ntmps18
    go_upto_region 1 with (fail)
    obtain ⟨g, W, hg, hW, K, B⟩ := box33 w (zv 0 ⟨#[]⟩ ⟨#[]⟩ ⟨#[]⟩ true c r q p n cap)
    rw [hW, hg]
    clear hW hg
    obtain ⟨c0, c1, c2, c3, c4, c5, c6, c7, c8⟩ := val_cells K.out
    go_wp2
    go_ret
    exact ⟨rfl, bl B.out⟩
  by_cases h : c = 0
  case neg =>
    have h1 : (c == 0) = false := beq_eq_false_iff_ne.2 h
    refine ⟨4, fun w => ?_, fun h => absurd h (by decide)⟩
    go_enter Tryz.func18, Tryz.ntmps18
    go_upto_region 1 with (fail)
    obtain ⟨g, W, hg, hW, K, B⟩ := box33 w (zv 0 ⟨#[]⟩ ⟨#[]⟩ ⟨#[]⟩ false c r q p n cap)
    rw [hW, hg]
    clear hW hg
    obtain ⟨c0, c1, c2, c3, c4, c5, c6, c7, c8⟩ := val_cells K.out
    go_wp2
    go_ret
    exact ⟨rfl, bl B.out⟩
  subst h
  by_cases h : r = 0
  case neg =>
    have h1 : (r == 0) = false := beq_eq_false_iff_ne.2 h
    refine ⟨4, fun w => ?_, fun h => absurd h (by decide)⟩
    go_enter Tryz.func18, Tryz.ntmps18
    go_upto_region 1 with (fail)
    obtain ⟨g, W, hg, hW, K, B⟩ := box33 w (zv 0 ⟨#[]⟩ ⟨#[]⟩ ⟨#[]⟩ false 0 r q p n cap)
    rw [hW, hg]
    clear hW hg
    obtain ⟨c0, c1, c2, c3, c4, c5, c6, c7, c8⟩ := val_cells K.out
    go_wp2
    go_ret
    exact ⟨rfl, bl B.out⟩
  subst h
  by_cases h : q = 0
  case neg =>
    have h1 : (q == 0) = false := beq_eq_false_iff_ne.2 h
    refine ⟨4, fun w => ?_, fun h => absurd h (by decide)⟩
    go_enter Tryz.func18, Tryz.ntmps18
    go_upto_region 1 with (fail)
    obtain ⟨g, W, hg, hW, K, B⟩ := box33 w (zv 0 ⟨#[]⟩ ⟨#[]⟩ ⟨#[]⟩ false 0 0 q p n cap)
    rw [hW, hg]
    clear hW hg
    obtain ⟨c0, c1, c2, c3, c4, c5, c6, c7, c8⟩ := val_cells K.out
    go_wp2
    go_ret
    exact ⟨rfl, bl B.out⟩
  subst h
  by_cases h : n = 0
  case neg =>
    have h1 : 0 < n := by omega
    refine ⟨4, fun w => ?_, fun h => absurd h (by decide)⟩
    go_enter Tryz.func18, Tryz.ntmps18
    go_upto_region 1 with (fail)
    obtain ⟨g, W, hg, hW, K, B⟩ := box33 w (zv 0 ⟨#[]⟩ ⟨#[]⟩ ⟨#[]⟩ false 0 0 0 p n cap)
    rw [hW, hg]
    clear hW hg
    obtain ⟨c0, c1, c2, c3, c4, c5, c6, c7, c8⟩ := val_cells K.out
    go_wp2
    go_ret
    exact ⟨rfl, bl B.out⟩
  subst h
  refine ⟨0, fun w => ?_, fun _ => ⟨Or.inr ⟨rfl, rfl⟩, Or.inr rfl, Or.inr rfl, Or.inr rfl, Or.inr ⟨rfl, rfl, rfl⟩⟩⟩
  go_enter Tryz.func18, Tryz.ntmps18
  go_upto_region 1 with (fail)
  obtain ⟨g, W, hg, hW, K, B⟩ := box33 w (zv 0 ⟨#[]⟩ ⟨#[]⟩ ⟨#[]⟩ false 0 0 0 p 0 cap)
  rw [hW, hg]
  clear hW hg
  obtain ⟨c0, c1, c2, c3, c4, c5, c6, c7, c8⟩ := val_cells K.out
  go_wp2
  go_ret
  exact ⟨rfl, bl B.out⟩
set_option maxHeartbeats 8000000 in
set_option maxRecDepth 100000 in
theorem zeros_1 (t o s : ByteArray) (b : Bool) (c r q : Int) (p : Option Addr) (n cap : Nat) :
    ∃ e : Int, (∀ w, Calls Tryz.prog 18 #[.agg #[.int .i64 1, .string t, .string o, .string s, .bool b, .int .i64 c, .int .i64 r, .int .i64 q, .slice p n cap]] w fun x w' => x = .returned (.int .i64 e) ∧ Below w.heap.size w w') ∧ (e = 0 → Zr 1 t o s b c r q n) := by
  by_cases h : s = ⟨#[]⟩
  case neg =>
    obtain ⟨h1, h2⟩ := ne_empty h
    clear h
    refine ⟨4, fun w => ?_, fun h => absurd h (by decide)⟩
    go_enter Tryz.func18, Tryz.ntmps18
    go_upto_region 1 with (fail)
    obtain ⟨g, W, hg, hW, K, B⟩ := box33 w (zv 1 t o s b c r q p n cap)
    rw [hW, hg]
    clear hW hg
    obtain ⟨c0, c1, c2, c3, c4, c5, c6, c7, c8⟩ := val_cells K.out
    go_wp2
    go_ret
    exact ⟨rfl, bl B.out⟩
  subst h
  cases b
  case true =>
    refine ⟨4, fun w => ?_, fun h => absurd h (by decide)⟩
    go_enter Tryz.func18, Tryz.ntmps18
    go_upto_region 1 with (fail)
    obtain ⟨g, W, hg, hW, K, B⟩ := box33 w (zv 1 t o ⟨#[]⟩ true c r q p n cap)
    rw [hW, hg]
    clear hW hg
    obtain ⟨c0, c1, c2, c3, c4, c5, c6, c7, c8⟩ := val_cells K.out
    go_wp2
    go_ret
    exact ⟨rfl, bl B.out⟩
  by_cases h : c = 0
  case neg =>
    have h1 : (c == 0) = false := beq_eq_false_iff_ne.2 h
    refine ⟨4, fun w => ?_, fun h => absurd h (by decide)⟩
    go_enter Tryz.func18, Tryz.ntmps18
    go_upto_region 1 with (fail)
    obtain ⟨g, W, hg, hW, K, B⟩ := box33 w (zv 1 t o ⟨#[]⟩ false c r q p n cap)
    rw [hW, hg]
    clear hW hg
    obtain ⟨c0, c1, c2, c3, c4, c5, c6, c7, c8⟩ := val_cells K.out
    go_wp2
    go_ret
    exact ⟨rfl, bl B.out⟩
  subst h
  by_cases h : r = 0
  case neg =>
    have h1 : (r == 0) = false := beq_eq_false_iff_ne.2 h
    refine ⟨4, fun w => ?_, fun h => absurd h (by decide)⟩
    go_enter Tryz.func18, Tryz.ntmps18
    go_upto_region 1 with (fail)
    obtain ⟨g, W, hg, hW, K, B⟩ := box33 w (zv 1 t o ⟨#[]⟩ false 0 r q p n cap)
    rw [hW, hg]
    clear hW hg
    obtain ⟨c0, c1, c2, c3, c4, c5, c6, c7, c8⟩ := val_cells K.out
    go_wp2
    go_ret
    exact ⟨rfl, bl B.out⟩
  subst h
  by_cases h : q = 0
  case neg =>
    have h1 : (q == 0) = false := beq_eq_false_iff_ne.2 h
    refine ⟨4, fun w => ?_, fun h => absurd h (by decide)⟩
    go_enter Tryz.func18, Tryz.ntmps18
    go_upto_region 1 with (fail)
    obtain ⟨g, W, hg, hW, K, B⟩ := box33 w (zv 1 t o ⟨#[]⟩ false 0 0 q p n cap)
    rw [hW, hg]
    clear hW hg
    obtain ⟨c0, c1, c2, c3, c4, c5, c6, c7, c8⟩ := val_cells K.out
    go_wp2
    go_ret
    exact ⟨rfl, bl B.out⟩
  subst h
  by_cases h : n = 0
  case neg =>
    have h1 : 0 < n := by omega
    refine ⟨4, fun w => ?_, fun h => absurd h (by decide)⟩
    go_enter Tryz.func18, Tryz.ntmps18
    go_upto_region 1 with (fail)
    obtain ⟨g, W, hg, hW, K, B⟩ := box33 w (zv 1 t o ⟨#[]⟩ false 0 0 0 p n cap)
    rw [hW, hg]
    clear hW hg
    obtain ⟨c0, c1, c2, c3, c4, c5, c6, c7, c8⟩ := val_cells K.out
    go_wp2
    go_ret
    exact ⟨rfl, bl B.out⟩
  subst h
  refine ⟨0, fun w => ?_, fun _ => ⟨Or.inl rfl, Or.inr rfl, Or.inr rfl, Or.inr rfl, Or.inr ⟨rfl, rfl, rfl⟩⟩⟩
  go_enter Tryz.func18, Tryz.ntmps18
  go_upto_region 1 with (fail)
  obtain ⟨g, W, hg, hW, K, B⟩ := box33 w (zv 1 t o ⟨#[]⟩ false 0 0 0 p 0 cap)
  rw [hW, hg]
  clear hW hg
  obtain ⟨c0, c1, c2, c3, c4, c5, c6, c7, c8⟩ := val_cells K.out
  go_wp2
  go_ret
  exact ⟨rfl, bl B.out⟩
set_option maxHeartbeats 8000000 in
set_option maxRecDepth 100000 in
theorem zeros_2 (t o s : ByteArray) (b : Bool) (c r q : Int) (p : Option Addr) (n cap : Nat) :
    ∃ e : Int, (∀ w, Calls Tryz.prog 18 #[.agg #[.int .i64 2, .string t, .string o, .string s, .bool b, .int .i64 c, .int .i64 r, .int .i64 q, .slice p n cap]] w fun x w' => x = .returned (.int .i64 e) ∧ Below w.heap.size w w') ∧ (e = 0 → Zr 2 t o s b c r q n) := by
  by_cases h : t = ⟨#[]⟩
  case neg =>
    obtain ⟨h1, h2⟩ := ne_empty h
    clear h
    refine ⟨4, fun w => ?_, fun h => absurd h (by decide)⟩
    go_enter Tryz.func18, Tryz.ntmps18
    go_upto_region 1 with (fail)
    obtain ⟨g, W, hg, hW, K, B⟩ := box33 w (zv 2 t o s b c r q p n cap)
    rw [hW, hg]
    clear hW hg
    obtain ⟨c0, c1, c2, c3, c4, c5, c6, c7, c8⟩ := val_cells K.out
    go_wp2
    go_ret
    exact ⟨rfl, bl B.out⟩
  subst h
  by_cases h : o = ⟨#[]⟩
  case neg =>
    obtain ⟨h1, h2⟩ := ne_empty h
    clear h
    refine ⟨4, fun w => ?_, fun h => absurd h (by decide)⟩
    go_enter Tryz.func18, Tryz.ntmps18
    go_upto_region 1 with (fail)
    obtain ⟨g, W, hg, hW, K, B⟩ := box33 w (zv 2 ⟨#[]⟩ o s b c r q p n cap)
    rw [hW, hg]
    clear hW hg
    obtain ⟨c0, c1, c2, c3, c4, c5, c6, c7, c8⟩ := val_cells K.out
    go_wp2
    go_ret
    exact ⟨rfl, bl B.out⟩
  subst h
  cases b
  case true =>
    refine ⟨4, fun w => ?_, fun h => absurd h (by decide)⟩
    go_enter Tryz.func18, Tryz.ntmps18
    go_upto_region 1 with (fail)
    obtain ⟨g, W, hg, hW, K, B⟩ := box33 w (zv 2 ⟨#[]⟩ ⟨#[]⟩ s true c r q p n cap)
    rw [hW, hg]
    clear hW hg
    obtain ⟨c0, c1, c2, c3, c4, c5, c6, c7, c8⟩ := val_cells K.out
    go_wp2
    go_ret
    exact ⟨rfl, bl B.out⟩
  by_cases h : c = 0
  case neg =>
    have h1 : (c == 0) = false := beq_eq_false_iff_ne.2 h
    refine ⟨4, fun w => ?_, fun h => absurd h (by decide)⟩
    go_enter Tryz.func18, Tryz.ntmps18
    go_upto_region 1 with (fail)
    obtain ⟨g, W, hg, hW, K, B⟩ := box33 w (zv 2 ⟨#[]⟩ ⟨#[]⟩ s false c r q p n cap)
    rw [hW, hg]
    clear hW hg
    obtain ⟨c0, c1, c2, c3, c4, c5, c6, c7, c8⟩ := val_cells K.out
    go_wp2
    go_ret
    exact ⟨rfl, bl B.out⟩
  subst h
  by_cases h : r = 0
  case neg =>
    have h1 : (r == 0) = false := beq_eq_false_iff_ne.2 h
    refine ⟨4, fun w => ?_, fun h => absurd h (by decide)⟩
    go_enter Tryz.func18, Tryz.ntmps18
    go_upto_region 1 with (fail)
    obtain ⟨g, W, hg, hW, K, B⟩ := box33 w (zv 2 ⟨#[]⟩ ⟨#[]⟩ s false 0 r q p n cap)
    rw [hW, hg]
    clear hW hg
    obtain ⟨c0, c1, c2, c3, c4, c5, c6, c7, c8⟩ := val_cells K.out
    go_wp2
    go_ret
    exact ⟨rfl, bl B.out⟩
  subst h
  by_cases h : q = 0
  case neg =>
    have h1 : (q == 0) = false := beq_eq_false_iff_ne.2 h
    refine ⟨4, fun w => ?_, fun h => absurd h (by decide)⟩
    go_enter Tryz.func18, Tryz.ntmps18
    go_upto_region 1 with (fail)
    obtain ⟨g, W, hg, hW, K, B⟩ := box33 w (zv 2 ⟨#[]⟩ ⟨#[]⟩ s false 0 0 q p n cap)
    rw [hW, hg]
    clear hW hg
    obtain ⟨c0, c1, c2, c3, c4, c5, c6, c7, c8⟩ := val_cells K.out
    go_wp2
    go_ret
    exact ⟨rfl, bl B.out⟩
  subst h
  by_cases h : n = 0
  case neg =>
    have h1 : 0 < n := by omega
    refine ⟨4, fun w => ?_, fun h => absurd h (by decide)⟩
    go_enter Tryz.func18, Tryz.ntmps18
    go_upto_region 1 with (fail)
    obtain ⟨g, W, hg, hW, K, B⟩ := box33 w (zv 2 ⟨#[]⟩ ⟨#[]⟩ s false 0 0 0 p n cap)
    rw [hW, hg]
    clear hW hg
    obtain ⟨c0, c1, c2, c3, c4, c5, c6, c7, c8⟩ := val_cells K.out
    go_wp2
    go_ret
    exact ⟨rfl, bl B.out⟩
  subst h
  refine ⟨0, fun w => ?_, fun _ => ⟨Or.inr ⟨rfl, rfl⟩, Or.inl rfl, Or.inr rfl, Or.inr rfl, Or.inr ⟨rfl, rfl, rfl⟩⟩⟩
  go_enter Tryz.func18, Tryz.ntmps18
  go_upto_region 1 with (fail)
  obtain ⟨g, W, hg, hW, K, B⟩ := box33 w (zv 2 ⟨#[]⟩ ⟨#[]⟩ s false 0 0 0 p 0 cap)
  rw [hW, hg]
  clear hW hg
  obtain ⟨c0, c1, c2, c3, c4, c5, c6, c7, c8⟩ := val_cells K.out
  go_wp2
  go_ret
  exact ⟨rfl, bl B.out⟩
set_option maxHeartbeats 8000000 in
set_option maxRecDepth 100000 in
theorem zeros_3 (t o s : ByteArray) (b : Bool) (c r q : Int) (p : Option Addr) (n cap : Nat) :
    ∃ e : Int, (∀ w, Calls Tryz.prog 18 #[.agg #[.int .i64 3, .string t, .string o, .string s, .bool b, .int .i64 c, .int .i64 r, .int .i64 q, .slice p n cap]] w fun x w' => x = .returned (.int .i64 e) ∧ Below w.heap.size w w') ∧ (e = 0 → Zr 3 t o s b c r q n) := by
  by_cases h : t = ⟨#[]⟩
  case neg =>
    obtain ⟨h1, h2⟩ := ne_empty h
    clear h
    refine ⟨4, fun w => ?_, fun h => absurd h (by decide)⟩
    go_enter Tryz.func18, Tryz.ntmps18
    go_upto_region 1 with (fail)
    obtain ⟨g, W, hg, hW, K, B⟩ := box33 w (zv 3 t o s b c r q p n cap)
    rw [hW, hg]
    clear hW hg
    obtain ⟨c0, c1, c2, c3, c4, c5, c6, c7, c8⟩ := val_cells K.out
    go_wp2
    go_ret
    exact ⟨rfl, bl B.out⟩
  subst h
  by_cases h : o = ⟨#[]⟩
  case neg =>
    obtain ⟨h1, h2⟩ := ne_empty h
    clear h
    refine ⟨4, fun w => ?_, fun h => absurd h (by decide)⟩
    go_enter Tryz.func18, Tryz.ntmps18
    go_upto_region 1 with (fail)
    obtain ⟨g, W, hg, hW, K, B⟩ := box33 w (zv 3 ⟨#[]⟩ o s b c r q p n cap)
    rw [hW, hg]
    clear hW hg
    obtain ⟨c0, c1, c2, c3, c4, c5, c6, c7, c8⟩ := val_cells K.out
    go_wp2
    go_ret
    exact ⟨rfl, bl B.out⟩
  subst h
  by_cases h : s = ⟨#[]⟩
  case neg =>
    obtain ⟨h1, h2⟩ := ne_empty h
    clear h
    refine ⟨4, fun w => ?_, fun h => absurd h (by decide)⟩
    go_enter Tryz.func18, Tryz.ntmps18
    go_upto_region 1 with (fail)
    obtain ⟨g, W, hg, hW, K, B⟩ := box33 w (zv 3 ⟨#[]⟩ ⟨#[]⟩ s b c r q p n cap)
    rw [hW, hg]
    clear hW hg
    obtain ⟨c0, c1, c2, c3, c4, c5, c6, c7, c8⟩ := val_cells K.out
    go_wp2
    go_ret
    exact ⟨rfl, bl B.out⟩
  subst h
  by_cases h : c = 0
  case neg =>
    have h1 : (c == 0) = false := beq_eq_false_iff_ne.2 h
    refine ⟨4, fun w => ?_, fun h => absurd h (by decide)⟩
    go_enter Tryz.func18, Tryz.ntmps18
    go_upto_region 1 with (fail)
    obtain ⟨g, W, hg, hW, K, B⟩ := box33 w (zv 3 ⟨#[]⟩ ⟨#[]⟩ ⟨#[]⟩ b c r q p n cap)
    rw [hW, hg]
    clear hW hg
    obtain ⟨c0, c1, c2, c3, c4, c5, c6, c7, c8⟩ := val_cells K.out
    go_wp2
    go_ret
    exact ⟨rfl, bl B.out⟩
  subst h
  by_cases h : r = 0
  case neg =>
    have h1 : (r == 0) = false := beq_eq_false_iff_ne.2 h
    refine ⟨4, fun w => ?_, fun h => absurd h (by decide)⟩
    go_enter Tryz.func18, Tryz.ntmps18
    go_upto_region 1 with (fail)
    obtain ⟨g, W, hg, hW, K, B⟩ := box33 w (zv 3 ⟨#[]⟩ ⟨#[]⟩ ⟨#[]⟩ b 0 r q p n cap)
    rw [hW, hg]
    clear hW hg
    obtain ⟨c0, c1, c2, c3, c4, c5, c6, c7, c8⟩ := val_cells K.out
    go_wp2
    go_ret
    exact ⟨rfl, bl B.out⟩
  subst h
  by_cases h : q = 0
  case neg =>
    have h1 : (q == 0) = false := beq_eq_false_iff_ne.2 h
    refine ⟨4, fun w => ?_, fun h => absurd h (by decide)⟩
    go_enter Tryz.func18, Tryz.ntmps18
    go_upto_region 1 with (fail)
    obtain ⟨g, W, hg, hW, K, B⟩ := box33 w (zv 3 ⟨#[]⟩ ⟨#[]⟩ ⟨#[]⟩ b 0 0 q p n cap)
    rw [hW, hg]
    clear hW hg
    obtain ⟨c0, c1, c2, c3, c4, c5, c6, c7, c8⟩ := val_cells K.out
    go_wp2
    go_ret
    exact ⟨rfl, bl B.out⟩
  subst h
  by_cases h : n = 0
  case neg =>
    have h1 : 0 < n := by omega
    refine ⟨4, fun w => ?_, fun h => absurd h (by decide)⟩
    go_enter Tryz.func18, Tryz.ntmps18
    go_upto_region 1 with (fail)
    obtain ⟨g, W, hg, hW, K, B⟩ := box33 w (zv 3 ⟨#[]⟩ ⟨#[]⟩ ⟨#[]⟩ b 0 0 0 p n cap)
    rw [hW, hg]
    clear hW hg
    obtain ⟨c0, c1, c2, c3, c4, c5, c6, c7, c8⟩ := val_cells K.out
    go_wp2
    go_ret
    exact ⟨rfl, bl B.out⟩
  subst h
  refine ⟨0, fun w => ?_, fun _ => ⟨Or.inr ⟨rfl, rfl⟩, Or.inr rfl, Or.inl rfl, Or.inr rfl, Or.inr ⟨rfl, rfl, rfl⟩⟩⟩
  go_enter Tryz.func18, Tryz.ntmps18
  go_upto_region 1 with (fail)
  obtain ⟨g, W, hg, hW, K, B⟩ := box33 w (zv 3 ⟨#[]⟩ ⟨#[]⟩ ⟨#[]⟩ b 0 0 0 p 0 cap)
  rw [hW, hg]
  clear hW hg
  obtain ⟨c0, c1, c2, c3, c4, c5, c6, c7, c8⟩ := val_cells K.out
  go_wp2
  go_ret
  exact ⟨rfl, bl B.out⟩
set_option maxHeartbeats 8000000 in
set_option maxRecDepth 100000 in
theorem zeros_4 (t o s : ByteArray) (b : Bool) (c r q : Int) (p : Option Addr) (n cap : Nat) :
    ∃ e : Int, (∀ w, Calls Tryz.prog 18 #[.agg #[.int .i64 4, .string t, .string o, .string s, .bool b, .int .i64 c, .int .i64 r, .int .i64 q, .slice p n cap]] w fun x w' => x = .returned (.int .i64 e) ∧ Below w.heap.size w w') ∧ (e = 0 → Zr 4 t o s b c r q n) := by
  by_cases h : t = ⟨#[]⟩
  case neg =>
    obtain ⟨h1, h2⟩ := ne_empty h
    clear h
    refine ⟨4, fun w => ?_, fun h => absurd h (by decide)⟩
    go_enter Tryz.func18, Tryz.ntmps18
    go_upto_region 1 with (fail)
    obtain ⟨g, W, hg, hW, K, B⟩ := box33 w (zv 4 t o s b c r q p n cap)
    rw [hW, hg]
    clear hW hg
    obtain ⟨c0, c1, c2, c3, c4, c5, c6, c7, c8⟩ := val_cells K.out
    go_wp2
    go_ret
    exact ⟨rfl, bl B.out⟩
  subst h
  by_cases h : o = ⟨#[]⟩
  case neg =>
    obtain ⟨h1, h2⟩ := ne_empty h
    clear h
    refine ⟨4, fun w => ?_, fun h => absurd h (by decide)⟩
    go_enter Tryz.func18, Tryz.ntmps18
    go_upto_region 1 with (fail)
    obtain ⟨g, W, hg, hW, K, B⟩ := box33 w (zv 4 ⟨#[]⟩ o s b c r q p n cap)
    rw [hW, hg]
    clear hW hg
    obtain ⟨c0, c1, c2, c3, c4, c5, c6, c7, c8⟩ := val_cells K.out
    go_wp2
    go_ret
    exact ⟨rfl, bl B.out⟩
  subst h
  by_cases h : s = ⟨#[]⟩
  case neg =>
    obtain ⟨h1, h2⟩ := ne_empty h
    clear h
    refine ⟨4, fun w => ?_, fun h => absurd h (by decide)⟩
    go_enter Tryz.func18, Tryz.ntmps18
    go_upto_region 1 with (fail)
    obtain ⟨g, W, hg, hW, K, B⟩ := box33 w (zv 4 ⟨#[]⟩ ⟨#[]⟩ s b c r q p n cap)
    rw [hW, hg]
    clear hW hg
    obtain ⟨c0, c1, c2, c3, c4, c5, c6, c7, c8⟩ := val_cells K.out
    go_wp2
    go_ret
    exact ⟨rfl, bl B.out⟩
  subst h
  cases b
  case true =>
    refine ⟨4, fun w => ?_, fun h => absurd h (by decide)⟩
    go_enter Tryz.func18, Tryz.ntmps18
    go_upto_region 1 with (fail)
    obtain ⟨g, W, hg, hW, K, B⟩ := box33 w (zv 4 ⟨#[]⟩ ⟨#[]⟩ ⟨#[]⟩ true c r q p n cap)
    rw [hW, hg]
    clear hW hg
    obtain ⟨c0, c1, c2, c3, c4, c5, c6, c7, c8⟩ := val_cells K.out
    go_wp2
    go_ret
    exact ⟨rfl, bl B.out⟩
  by_cases h : r = 0
  case neg =>
    have h1 : (r == 0) = false := beq_eq_false_iff_ne.2 h
    refine ⟨4, fun w => ?_, fun h => absurd h (by decide)⟩
    go_enter Tryz.func18, Tryz.ntmps18
    go_upto_region 1 with (fail)
    obtain ⟨g, W, hg, hW, K, B⟩ := box33 w (zv 4 ⟨#[]⟩ ⟨#[]⟩ ⟨#[]⟩ false c r q p n cap)
    rw [hW, hg]
    clear hW hg
    obtain ⟨c0, c1, c2, c3, c4, c5, c6, c7, c8⟩ := val_cells K.out
    go_wp2
    go_ret
    exact ⟨rfl, bl B.out⟩
  subst h
  by_cases h : q = 0
  case neg =>
    have h1 : (q == 0) = false := beq_eq_false_iff_ne.2 h
    refine ⟨4, fun w => ?_, fun h => absurd h (by decide)⟩
    go_enter Tryz.func18, Tryz.ntmps18
    go_upto_region 1 with (fail)
    obtain ⟨g, W, hg, hW, K, B⟩ := box33 w (zv 4 ⟨#[]⟩ ⟨#[]⟩ ⟨#[]⟩ false c 0 q p n cap)
    rw [hW, hg]
    clear hW hg
    obtain ⟨c0, c1, c2, c3, c4, c5, c6, c7, c8⟩ := val_cells K.out
    go_wp2
    go_ret
    exact ⟨rfl, bl B.out⟩
  subst h
  by_cases h : n = 0
  case neg =>
    have h1 : 0 < n := by omega
    refine ⟨4, fun w => ?_, fun h => absurd h (by decide)⟩
    go_enter Tryz.func18, Tryz.ntmps18
    go_upto_region 1 with (fail)
    obtain ⟨g, W, hg, hW, K, B⟩ := box33 w (zv 4 ⟨#[]⟩ ⟨#[]⟩ ⟨#[]⟩ false c 0 0 p n cap)
    rw [hW, hg]
    clear hW hg
    obtain ⟨c0, c1, c2, c3, c4, c5, c6, c7, c8⟩ := val_cells K.out
    go_wp2
    go_ret
    exact ⟨rfl, bl B.out⟩
  subst h
  refine ⟨0, fun w => ?_, fun _ => ⟨Or.inr ⟨rfl, rfl⟩, Or.inr rfl, Or.inr rfl, Or.inl rfl, Or.inr ⟨rfl, rfl, rfl⟩⟩⟩
  go_enter Tryz.func18, Tryz.ntmps18
  go_upto_region 1 with (fail)
  obtain ⟨g, W, hg, hW, K, B⟩ := box33 w (zv 4 ⟨#[]⟩ ⟨#[]⟩ ⟨#[]⟩ false c 0 0 p 0 cap)
  rw [hW, hg]
  clear hW hg
  obtain ⟨c0, c1, c2, c3, c4, c5, c6, c7, c8⟩ := val_cells K.out
  go_wp2
  go_ret
  exact ⟨rfl, bl B.out⟩
set_option maxHeartbeats 8000000 in
set_option maxRecDepth 100000 in
theorem zeros_5 (t o s : ByteArray) (b : Bool) (c r q : Int) (p : Option Addr) (n cap : Nat) :
    ∃ e : Int, (∀ w, Calls Tryz.prog 18 #[.agg #[.int .i64 5, .string t, .string o, .string s, .bool b, .int .i64 c, .int .i64 r, .int .i64 q, .slice p n cap]] w fun x w' => x = .returned (.int .i64 e) ∧ Below w.heap.size w w') ∧ (e = 0 → Zr 5 t o s b c r q n) := by
  by_cases h : t = ⟨#[]⟩
  case neg =>
    obtain ⟨h1, h2⟩ := ne_empty h
    clear h
    refine ⟨4, fun w => ?_, fun h => absurd h (by decide)⟩
    go_enter Tryz.func18, Tryz.ntmps18
    go_upto_region 1 with (fail)
    obtain ⟨g, W, hg, hW, K, B⟩ := box33 w (zv 5 t o s b c r q p n cap)
    rw [hW, hg]
    clear hW hg
    obtain ⟨c0, c1, c2, c3, c4, c5, c6, c7, c8⟩ := val_cells K.out
    go_wp2
    go_ret
    exact ⟨rfl, bl B.out⟩
  subst h
  by_cases h : o = ⟨#[]⟩
  case neg =>
    obtain ⟨h1, h2⟩ := ne_empty h
    clear h
    refine ⟨4, fun w => ?_, fun h => absurd h (by decide)⟩
    go_enter Tryz.func18, Tryz.ntmps18
    go_upto_region 1 with (fail)
    obtain ⟨g, W, hg, hW, K, B⟩ := box33 w (zv 5 ⟨#[]⟩ o s b c r q p n cap)
    rw [hW, hg]
    clear hW hg
    obtain ⟨c0, c1, c2, c3, c4, c5, c6, c7, c8⟩ := val_cells K.out
    go_wp2
    go_ret
    exact ⟨rfl, bl B.out⟩
  subst h
  by_cases h : s = ⟨#[]⟩
  case neg =>
    obtain ⟨h1, h2⟩ := ne_empty h
    clear h
    refine ⟨4, fun w => ?_, fun h => absurd h (by decide)⟩
    go_enter Tryz.func18, Tryz.ntmps18
    go_upto_region 1 with (fail)
    obtain ⟨g, W, hg, hW, K, B⟩ := box33 w (zv 5 ⟨#[]⟩ ⟨#[]⟩ s b c r q p n cap)
    rw [hW, hg]
    clear hW hg
    obtain ⟨c0, c1, c2, c3, c4, c5, c6, c7, c8⟩ := val_cells K.out
    go_wp2
    go_ret
    exact ⟨rfl, bl B.out⟩
  subst h
  cases b
  case true =>
    refine ⟨4, fun w => ?_, fun h => absurd h (by decide)⟩
    go_enter Tryz.func18, Tryz.ntmps18
    go_upto_region 1 with (fail)
    obtain ⟨g, W, hg, hW, K, B⟩ := box33 w (zv 5 ⟨#[]⟩ ⟨#[]⟩ ⟨#[]⟩ true c r q p n cap)
    rw [hW, hg]
    clear hW hg
    obtain ⟨c0, c1, c2, c3, c4, c5, c6, c7, c8⟩ := val_cells K.out
    go_wp2
    go_ret
    exact ⟨rfl, bl B.out⟩
  by_cases h : c = 0
  case neg =>
    have h1 : (c == 0) = false := beq_eq_false_iff_ne.2 h
    refine ⟨4, fun w => ?_, fun h => absurd h (by decide)⟩
    go_enter Tryz.func18, Tryz.ntmps18
    go_upto_region 1 with (fail)
    obtain ⟨g, W, hg, hW, K, B⟩ := box33 w (zv 5 ⟨#[]⟩ ⟨#[]⟩ ⟨#[]⟩ false c r q p n cap)
    rw [hW, hg]
    clear hW hg
    obtain ⟨c0, c1, c2, c3, c4, c5, c6, c7, c8⟩ := val_cells K.out
    go_wp2
    go_ret
    exact ⟨rfl, bl B.out⟩
  subst h
  refine ⟨0, fun w => ?_, fun _ => ⟨Or.inr ⟨rfl, rfl⟩, Or.inr rfl, Or.inr rfl, Or.inr rfl, Or.inl rfl⟩⟩
  go_enter Tryz.func18, Tryz.ntmps18
  go_upto_region 1 with (fail)
  obtain ⟨g, W, hg, hW, K, B⟩ := box33 w (zv 5 ⟨#[]⟩ ⟨#[]⟩ ⟨#[]⟩ false 0 r q p n cap)
  rw [hW, hg]
  clear hW hg
  obtain ⟨c0, c1, c2, c3, c4, c5, c6, c7, c8⟩ := val_cells K.out
  go_wp2
  go_ret
  exact ⟨rfl, bl B.out⟩
theorem zeros_any (k : Int) (hk : 0 ≤ k ∧ k ≤ 5) (t o s : ByteArray) (b : Bool) (c r q : Int) (p : Option Addr) (n cap : Nat) :
    ∃ e : Int, (∀ w, Calls Tryz.prog 18 #[.agg #[.int .i64 k, .string t, .string o, .string s, .bool b, .int .i64 c, .int .i64 r, .int .i64 q, .slice p n cap]] w fun x w' => x = .returned (.int .i64 e) ∧ Below w.heap.size w w') ∧ (e = 0 → Zr k t o s b c r q n) := by
  have : k = 0 ∨ k = 1 ∨ k = 2 ∨ k = 3 ∨ k = 4 ∨ k = 5 := by omega
  rcases this with rfl | rfl | rfl | rfl | rfl | rfl
  · exact zeros_0 t o s b c r q p n cap
  · exact zeros_1 t o s b c r q p n cap
  · exact zeros_2 t o s b c r q p n cap
  · exact zeros_3 t o s b c r q p n cap
  · exact zeros_4 t o s b c r q p n cap
  · exact zeros_5 t o s b c r q p n cap
end Go.Proofs.YtckfdhnimmaeiaaGreatDoor.Pr
