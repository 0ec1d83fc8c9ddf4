/- value.array, value.Check of any value (printed by wip/tools/mkarray.py). -/
import Derived.Test.YtckfdhnimmaeiaaGreatDoorFd
import Derived.Test.YtckfdhnimmaeiaaGreatDoorZf
namespace Go.Proofs.YtckfdhnimmaeiaaGreatDoor.Pr
open Go.RowKit Go.Proofs.YtckfdhnimmaeiaaGreatDoorW.PrintWords Go.Proofs.YtckfdhnimmaeiaaGreatDoorW.PrintLast Go.Proofs.YtckfdhnimmaeiaaGreatDoorW.PrintMore
set_option linter.unusedVariables false
set_option linter.unusedSimpArgs false
/-- A fraction in lowest terms that is not too long. -/
def Nm (t o : ByteArray) : Prop := ∃ x : Pure.Q, Pure.qLow x ∧ Pure.Fit x ∧ t = Pure.nt x ∧ o = Pure.dt x
theorem check_frac (t o : ByteArray) (ht : t.size ≤ maxLen) (ho : o.size ≤ maxLen) : ∃ m e, exact_Check.f m t o = some e ∧ (e = 0 → Nm t o) := by
  unfold maxLen at ht ho
  obtain ⟨K, hK⟩ := Pure.read_all t.data.toList o.data.toList (by show t.data.size ≤ _; exact ht) (by show o.data.size ≤ _; exact ho)
  obtain ⟨m, N, D, e, h, h2, _⟩ := hK K (Nat.le_refl _)
  rw [Pure.B_self, Pure.B_self] at h
  refine ⟨K, e, by unfold exact_Check.f; rw [h]; rfl, fun he => ?_⟩
  obtain ⟨x, x1, x2, x3, _, _, _, _, _, _, _, x4, x5⟩ := h2 he
  exact ⟨x, x1, ⟨x4, x5⟩, Pure.B_of x2, Pure.B_of x3⟩
/-- The fields of an item. -/
def Itf (w : World) (ad : Addr) (i : Nat) : Prop := ∃ (k : Int) (t o s : ByteArray) (b : Bool) (c r q : Int) (p : Option Addr) (n p0 : Nat), w.cell? (ad.add (i * 9)) = some (.int .i64 k) ∧ w.cell? ⟨(ad.add (i * 9)).block, (ad.add (i * 9)).off + 1, none⟩ = some (.string t) ∧ w.cell? ⟨(ad.add (i * 9)).block, (ad.add (i * 9)).off + 2, none⟩ = some (.string o) ∧ w.cell? ⟨(ad.add (i * 9)).block, (ad.add (i * 9)).off + 3, none⟩ = some (.string s) ∧ w.cell? ⟨(ad.add (i * 9)).block, (ad.add (i * 9)).off + 4, none⟩ = some (.bool b) ∧ w.cell? ⟨(ad.add (i * 9)).block, (ad.add (i * 9)).off + 5, none⟩ = some (.int .i64 c) ∧ w.cell? ⟨(ad.add (i * 9)).block, (ad.add (i * 9)).off + 6, none⟩ = some (.int .i64 r) ∧ w.cell? ⟨(ad.add (i * 9)).block, (ad.add (i * 9)).off + 7, none⟩ = some (.int .i64 q) ∧ w.cell? ⟨(ad.add (i * 9)).block, (ad.add (i * 9)).off + 8, none⟩ = some (.slice p n p0) ∧ t.size ≤ maxLen ∧ o.size ≤ maxLen ∧ s.size ≤ maxLen
/-- Items in memory. -/
def Itm (w : World) (p : Option Addr) (n : Nat) : Prop := n ≤ maxLen ∧ ∀ i, i < n → ∃ ad, p = some ad ∧ Itf w ad i
theorem Itm.up {w w' : World} {p : Option Addr} {n : Nat} (h : Itm w p n) (g : Below w.heap.size w w') : Itm w' p n := by
  refine ⟨h.1, fun i hi => ?_⟩
  obtain ⟨ad, hp, k, t, o, s, b, c, r, q, p, n, p0, h0, h1, h2, h3, h4, h5, h6, h7, h8, z⟩ := h.2 i hi
  exact ⟨ad, hp, k, t, o, s, b, c, r, q, p, n, p0, (g.cell (World.block_lt_of_cell? w _ h0)).trans h0, (g.cell (World.block_lt_of_cell? w _ h1)).trans h1, (g.cell (World.block_lt_of_cell? w _ h2)).trans h2, (g.cell (World.block_lt_of_cell? w _ h3)).trans h3, (g.cell (World.block_lt_of_cell? w _ h4)).trans h4, (g.cell (World.block_lt_of_cell? w _ h5)).trans h5, (g.cell (World.block_lt_of_cell? w _ h6)).trans h6, (g.cell (World.block_lt_of_cell? w _ h7)).trans h7, (g.cell (World.block_lt_of_cell? w _ h8)).trans h8, z⟩
/-- Some number is answered. -/
def SomeI (x : Ending) : Prop := ∃ e : Int, x = .returned (.int .i64 e)
theorem SomeI.mk (e : Int) : SomeI (.returned (.int .i64 e)) := ⟨e, rfl⟩
set_option maxHeartbeats 8000000 in
set_option maxRecDepth 100000 in
theorem array_a (t o s : ByteArray) (b : Bool) (c r q : Int) (p : Option Addr) (n p0 : Nat) (h1 : r < 1) (w : World) :
    Calls Tryz.prog 22 #[.agg #[.int .i64 5, .string t, .string o, .string s, .bool b, .int .i64 c, .int .i64 r, .int .i64 q, .slice p n p0]] w fun x w' => SomeI x ∧ Below w.heap.size w w' := by
  go_enter Tryz.func22, Tryz.ntmps22
  go_upto_region 1 with (fail)
  obtain ⟨g, W, hg, hW, K, B⟩ := box33 w (zv 5 t o s b c r q p n p0)
  rw [hW, hg]
  clear hW hg
  obtain ⟨c0, c1, c2, c3, c4, c5, c6, c7, c8⟩ := val_cells K.out
  go_wp2
  go_ret
  exact ⟨.mk _, bl B.out⟩
set_option maxHeartbeats 8000000 in
set_option maxRecDepth 100000 in
theorem array_b (t o s : ByteArray) (b : Bool) (c r q : Int) (p : Option Addr) (n p0 : Nat) (h1 : ¬ r < 1) (h2 : 100000 < r) (w : World) :
    Calls Tryz.prog 22 #[.agg #[.int .i64 5, .string t, .string o, .string s, .bool b, .int .i64 c, .int .i64 r, .int .i64 q, .slice p n p0]] w fun x w' => SomeI x ∧ Below w.heap.size w w' := by
  go_enter Tryz.func22, Tryz.ntmps22
  go_upto_region 1 with (fail)
  obtain ⟨g, W, hg, hW, K, B⟩ := box33 w (zv 5 t o s b c r q p n p0)
  rw [hW, hg]
  clear hW hg
  obtain ⟨c0, c1, c2, c3, c4, c5, c6, c7, c8⟩ := val_cells K.out
  go_wp2
  go_ret
  exact ⟨.mk _, bl B.out⟩
set_option maxHeartbeats 8000000 in
set_option maxRecDepth 100000 in
theorem array_c (t o s : ByteArray) (b : Bool) (c r q : Int) (p : Option Addr) (n p0 : Nat) (h1 : ¬ r < 1) (h2 : ¬ 100000 < r) (h3 : q < 1) (w : World) :
    Calls Tryz.prog 22 #[.agg #[.int .i64 5, .string t, .string o, .string s, .bool b, .int .i64 c, .int .i64 r, .int .i64 q, .slice p n p0]] w fun x w' => SomeI x ∧ Below w.heap.size w w' := by
  go_enter Tryz.func22, Tryz.ntmps22
  go_upto_region 1 with (fail)
  obtain ⟨g, W, hg, hW, K, B⟩ := box33 w (zv 5 t o s b c r q p n p0)
  rw [hW, hg]
  clear hW hg
  obtain ⟨c0, c1, c2, c3, c4, c5, c6, c7, c8⟩ := val_cells K.out
  go_wp2
  go_ret
  exact ⟨.mk _, bl B.out⟩
set_option maxHeartbeats 8000000 in
set_option maxRecDepth 100000 in
theorem array_d (t o s : ByteArray) (b : Bool) (c r q : Int) (p : Option Addr) (n p0 : Nat) (h1 : ¬ r < 1) (h2 : ¬ 100000 < r) (h3 : ¬ q < 1) (h4 : 100000 < q) (w : World) :
    Calls Tryz.prog 22 #[.agg #[.int .i64 5, .string t, .string o, .string s, .bool b, .int .i64 c, .int .i64 r, .int .i64 q, .slice p n p0]] w fun x w' => SomeI x ∧ Below w.heap.size w w' := by
  go_enter Tryz.func22, Tryz.ntmps22
  go_upto_region 1 with (fail)
  obtain ⟨g, W, hg, hW, K, B⟩ := box33 w (zv 5 t o s b c r q p n p0)
  rw [hW, hg]
  clear hW hg
  obtain ⟨c0, c1, c2, c3, c4, c5, c6, c7, c8⟩ := val_cells K.out
  go_wp2
  go_ret
  exact ⟨.mk _, bl B.out⟩
set_option maxHeartbeats 8000000 in
set_option maxRecDepth 100000 in
theorem array_e (t o s : ByteArray) (b : Bool) (c r q : Int) (p : Option Addr) (n p0 : Nat) (h1 : ¬ r < 1) (h2 : ¬ 100000 < r) (h3 : ¬ q < 1) (h4 : ¬ 100000 < q) (h5 : 100000 < r * q) (w : World) :
    Calls Tryz.prog 22 #[.agg #[.int .i64 5, .string t, .string o, .string s, .bool b, .int .i64 c, .int .i64 r, .int .i64 q, .slice p n p0]] w fun x w' => SomeI x ∧ Below w.heap.size w w' := by
  have m1 : 1 ≤ r * q := by have := Int.mul_le_mul (show (1 : Int) ≤ r by omega) (show (1 : Int) ≤ q by omega) (by decide) (by omega); omega
  have m2 : r * q ≤ 10000000000 := by have := Int.mul_le_mul (show r ≤ (100000 : Int) by omega) (show q ≤ (100000 : Int) by omega) (by omega) (by decide); omega
  go_enter Tryz.func22, Tryz.ntmps22
  go_upto_region 1 with (fail)
  obtain ⟨g, W, hg, hW, K, B⟩ := box33 w (zv 5 t o s b c r q p n p0)
  rw [hW, hg]
  clear hW hg
  obtain ⟨c0, c1, c2, c3, c4, c5, c6, c7, c8⟩ := val_cells K.out
  go_wp2
  go_ret
  exact ⟨.mk _, bl B.out⟩
set_option maxHeartbeats 8000000 in
set_option maxRecDepth 100000 in
theorem array_f (t o s : ByteArray) (b : Bool) (c r q : Int) (p : Option Addr) (n p0 : Nat) (h1 : ¬ r < 1) (h2 : ¬ 100000 < r) (h3 : ¬ q < 1) (h4 : ¬ 100000 < q) (h5 : ¬ 100000 < r * q) (h6 : (n : Int) ≠ r * q) (w : World) :
    Calls Tryz.prog 22 #[.agg #[.int .i64 5, .string t, .string o, .string s, .bool b, .int .i64 c, .int .i64 r, .int .i64 q, .slice p n p0]] w fun x w' => SomeI x ∧ Below w.heap.size w w' := by
  have m1 : 1 ≤ r * q := by have := Int.mul_le_mul (show (1 : Int) ≤ r by omega) (show (1 : Int) ≤ q by omega) (by decide) (by omega); omega
  have m2 : r * q ≤ 10000000000 := by have := Int.mul_le_mul (show r ≤ (100000 : Int) by omega) (show q ≤ (100000 : Int) by omega) (by omega) (by decide); omega
  have h7 : ((n : Int) == r * q) = false := beq_eq_false_iff_ne.2 h6
  go_enter Tryz.func22, Tryz.ntmps22
  go_upto_region 1 with (fail)
  obtain ⟨g, W, hg, hW, K, B⟩ := box33 w (zv 5 t o s b c r q p n p0)
  rw [hW, hg]
  clear hW hg
  obtain ⟨c0, c1, c2, c3, c4, c5, c6, c7, c8⟩ := val_cells K.out
  go_wp2
  go_ret
  exact ⟨.mk _, bl B.out⟩
set_option maxHeartbeats 8000000 in
set_option maxRecDepth 100000 in
theorem array_g (t o s : ByteArray) (b : Bool) (c r q : Int) (p : Option Addr) (n p0 : Nat) (h1 : ¬ r < 1) (h2 : ¬ 100000 < r) (h3 : ¬ q < 1) (h4 : ¬ 100000 < q) (h5 : ¬ 100000 < r * q) (h6 : (n : Int) = r * q) (w : World) (hW : Wd w) (hI : Itm w p n) :
    Calls Tryz.prog 22 #[.agg #[.int .i64 5, .string t, .string o, .string s, .bool b, .int .i64 c, .int .i64 r, .int .i64 q, .slice p n p0]] w fun x w' => SomeI x ∧ Below w.heap.size w w' := by
  have m1 : 1 ≤ r * q := by have := Int.mul_le_mul (show (1 : Int) ≤ r by omega) (show (1 : Int) ≤ q by omega) (by decide) (by omega); omega
  have m2 : r * q ≤ 10000000000 := by have := Int.mul_le_mul (show r ≤ (100000 : Int) by omega) (show q ≤ (100000 : Int) by omega) (by omega) (by decide); omega
  have HW := Aside0.mk hW
  have HI := Aside0.mk hI
  have hn1 : 1 ≤ n := by omega
  have hn2 : n ≤ 100000 := by omega
  obtain ⟨m, hm⟩ : ∃ m, m = r * q := ⟨_, rfl⟩
  rw [← hm] at m1 m2 h5 h6
  have hmm : IntKind.i64.wrap (r * q) = m := by rw [hm]; exact IntWalk.i64_in _ (by omega)
  have h7 : ((n : Int) == m) = true := beq_iff_eq.2 h6
  have H6 := Aside0.mk h6
  have HM := Aside0.mk hm
  have m1 : 1 ≤ r * q := by omega
  have m2 : r * q ≤ 10000000000 := by omega
  have h8 : ¬ 100000 < r * q := by omega
  have h9 : ((n : Int) == r * q) = true := beq_iff_eq.2 (by omega)
  clear hm h6 h7 hmm h5 hW hI
  go_enter Tryz.func22, Tryz.ntmps22
  go_upto_region 1 with (fail)
  obtain ⟨g, W, hg, hW, K, B⟩ := box33 w (zv 5 t o s b c r q p n p0)
  rw [hW, hg]
  clear hW hg
  obtain ⟨c0, c1, c2, c3, c4, c5, c6, c7, c8⟩ := val_cells K.out
  go_wp2_with (fail)
  go_loopg [42] n (fun kq v42 w' => ∃ (i : Nat), v42 = .int .i64 (i : Int) ∧ i + kq = n ∧ Aside0 (Below w.heap.size w w'))
  case atStart => exact ⟨0, rfl, by omega, ⟨bl B.out⟩⟩
  case round =>
    clear K B c0 c1 c2 c3 c4 c5 c6 c7 c8
    obtain ⟨i, rfl, hk, B⟩ := hrel
    by_cases hi : i < n
    · obtain ⟨ad, hp, kz, tz, oz, sz, bz, cz, rz, qz, pz, nz, p0z, c0, c1, c2, c3, c4, c5, c6, c7, c8, sz⟩ := (HI.out.up B.out).2 i hi
      have SZ := Aside0.mk sz
      subst hp
      clear sz
      by_cases hz : kz = 5
      · subst hz
        go_wp2_with (fail)
        go_ret
        exact ⟨.mk _, bl B.out⟩
      · obtain ⟨e, hC, _⟩ := check_flat True kz tz oz sz bz cz rz qz pz nz p0z hz (by obtain ⟨m', e', h1, h2⟩ := check_frac tz oz SZ.out.1 SZ.out.2.1; exact ⟨m', e', h1, fun _ => trivial⟩) SZ.out.2.2
        have CC := Aside0.mk hC
        have hq5 : (kz == 5) = false := beq_eq_false_iff_ne.2 hz
        clear hC hz
        by_cases he : e = 0
        · subst he
          go_wp2_with (first | (go_at_call 10; (with_reducible refine (CC.out _ (HW.out.up (bl B.out))).mono ?_); rintro _ w1 ⟨rfl, hb1⟩; have B_ := Aside0.mk (below_step (bl B.out) hb1); clear B hb1 c0 c1 c2 c3 c4 c5 c6 c7 c8; have B := B_; clear B_))
          go_roundg (gk - 1)
          case measure => omega
          case rel => exact ⟨i + 1, by go_num, by omega, ⟨bl B.out⟩⟩
        · have hq0 : (e == 0) = false := beq_eq_false_iff_ne.2 he
          clear he
          go_wp2_with (first | (go_at_call 10; (with_reducible refine (CC.out _ (HW.out.up (bl B.out))).mono ?_); rintro _ w1 ⟨rfl, hb1⟩; have B_ := Aside0.mk (below_step (bl B.out) hb1); clear B hb1 c0 c1 c2 c3 c4 c5 c6 c7 c8; have B := B_; clear B_))
          go_ret
          exact ⟨.mk _, bl B.out⟩
    · go_wp2_with (fail)
      go_ret
      exact ⟨.mk _, bl B.out⟩
theorem array_calls (t o s : ByteArray) (b : Bool) (c r q : Int) (p : Option Addr) (n p0 : Nat) (w : World) (hW : Wd w) (hI : Itm w p n) :
    Calls Tryz.prog 22 #[.agg #[.int .i64 5, .string t, .string o, .string s, .bool b, .int .i64 c, .int .i64 r, .int .i64 q, .slice p n p0]] w fun x w' => SomeI x ∧ Below w.heap.size w w' := by
  by_cases h1 : r < 1
  · exact array_a t o s b c r q p n p0 h1 w
  by_cases h2 : 100000 < r
  · exact array_b t o s b c r q p n p0 h1 h2 w
  by_cases h3 : q < 1
  · exact array_c t o s b c r q p n p0 h1 h2 h3 w
  by_cases h4 : 100000 < q
  · exact array_d t o s b c r q p n p0 h1 h2 h3 h4 w
  by_cases h5 : 100000 < r * q
  · exact array_e t o s b c r q p n p0 h1 h2 h3 h4 h5 w
  by_cases h6 : (n : Int) = r * q
  · exact array_g t o s b c r q p n p0 h1 h2 h3 h4 h5 h6 w hW hI
  · exact array_f t o s b c r q p n p0 h1 h2 h3 h4 h5 h6 w
set_option maxHeartbeats 8000000 in
set_option maxRecDepth 100000 in
theorem check_k5 (t o s : ByteArray) (b : Bool) (c r q : Int) (p : Option Addr) (n p0 : Nat) (hz : ∀ w, Calls Tryz.prog 18 #[.agg #[.int .i64 5, .string t, .string o, .string s, .bool b, .int .i64 c, .int .i64 r, .int .i64 q, .slice p n p0]] w fun x w' => x = .returned (.int .i64 0) ∧ Below w.heap.size w w') (w : World) (hW : Wd w) (hI : Itm w p n) :
    Calls Tryz.prog 10 #[.agg #[.int .i64 5, .string t, .string o, .string s, .bool b, .int .i64 c, .int .i64 r, .int .i64 q, .slice p n p0]] w fun x w' => SomeI x ∧ Below w.heap.size w w' := by
  have ZC := Aside0.mk hz
  have HW := Aside0.mk hW
  have HI := Aside0.mk hI
  clear hz hW hI
  go_enter Tryz.func10, Tryz.ntmps10
  go_upto_region 1 with (fail)
  obtain ⟨g, W, hg, hW, K, B⟩ := box33 w (zv 5 t o s b c r q p n p0)
  rw [hW, hg]
  clear hW hg
  obtain ⟨c0, c1, c2, c3, c4, c5, c6, c7, c8⟩ := val_cells K.out
  go_wp2_with (first | (go_at_call 18; (with_reducible refine (ZC.out _).mono ?_); rintro _ w1 ⟨rfl, hb1⟩; have B_ := Aside0.mk (below_step (bl B.out) hb1); have K_ := Aside0.mk (blk_below (blk_below K.out climb) hb1); clear B K hb1 c0 c1 c2 c3 c4 c5 c6 c7 c8; have B := B_; have K := K_; clear B_ K_; obtain ⟨c0, c1, c2, c3, c4, c5, c6, c7, c8⟩ := val_cells K.out) | (go_at_call 22; (with_reducible refine (array_calls t o s b c r q p n p0 _ (HW.out.up (bl B.out)) (HI.out.up (bl B.out))).mono ?_); rintro _ w1 ⟨⟨e, rfl⟩, hb1⟩; have B_ := Aside0.mk (below_step (bl B.out) hb1); clear B hb1; have B := B_; clear B_))
  go_ret
  exact ⟨.mk _, bl B.out⟩
theorem check_arr (t o s : ByteArray) (b : Bool) (c r q : Int) (p : Option Addr) (n p0 : Nat) (w : World) (hW : Wd w) (hI : Itm w p n) :
    Calls Tryz.prog 10 #[.agg #[.int .i64 5, .string t, .string o, .string s, .bool b, .int .i64 c, .int .i64 r, .int .i64 q, .slice p n p0]] w fun x w' => SomeI x ∧ Below w.heap.size w w' := by
  obtain ⟨e, hz, _⟩ := zeros_any 5 ⟨by decide, by decide⟩ t o s b c r q p n p0
  by_cases he : e = 0
  · subst he
    exact check_k5 t o s b c r q p n p0 hz w hW hI
  · exact (check_bad 5 t o s b c r q p n p0 (by decide) (by decide) e he hz w).mono fun x w' h => ⟨⟨e, h.1⟩, h.2⟩
end Go.Proofs.YtckfdhnimmaeiaaGreatDoor.Pr
