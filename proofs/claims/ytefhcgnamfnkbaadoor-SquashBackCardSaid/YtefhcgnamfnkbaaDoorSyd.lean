/- Bits in bytes, in plain Lean: what squash's writer writes and its reader reads. squash: the writer's put, exactly. -/
import Derived.Test.YtefhcgnamfnkbaaDoorSqp
import Derived.Lib.EndianBits
namespace Go.Proofs.YtefhcgnamfnkbaaDoor.Sb
def bv (b : Bool) : Nat := if b then 1 else 0
theorem bv_le (b : Bool) : bv b ≤ 1 := by cases b <;> simp [bv]
/-- The bit at i; 0 behind the end. -/
def bt1 (bs : List Bool) (i : Nat) : Nat := bv (bs.getD i false)
theorem bt1_le (bs : List Bool) (i : Nat) : bt1 bs i ≤ 1 := bv_le _
theorem bt1_far {bs : List Bool} {i : Nat} (h : bs.length ≤ i) : bt1 bs i = 0 := by
  unfold bt1
  rw [List.getD_eq_getElem?_getD, List.getElem?_eq_none h]; rfl
theorem bt1_new (bs : List Bool) (b : Bool) : bt1 (bs ++ [b]) bs.length = bv b := by
  unfold bt1
  rw [List.getD_eq_getElem?_getD, List.getElem?_append_right (Nat.le_refl _), Nat.sub_self]; rfl
theorem bt1_old {bs : List Bool} {i : Nat} (b : Bool) (h : i ≠ bs.length) : bt1 (bs ++ [b]) i = bt1 bs i := by
  rcases Nat.lt_or_ge i bs.length with h1 | h1
  · unfold bt1
    rw [List.getD_eq_getElem?_getD, List.getD_eq_getElem?_getD, List.getElem?_append_left h1]
  · have hl : (bs ++ [b]).length = bs.length + 1 := by simp
    rw [bt1_far (by omega), bt1_far (by omega)]
/-- Byte j of the bits. -/
def byteAt (bs : List Bool) (j : Nat) : Nat := 128 * bt1 bs (8 * j) + 64 * bt1 bs (8 * j + 1) + 32 * bt1 bs (8 * j + 2) + 16 * bt1 bs (8 * j + 3) + 8 * bt1 bs (8 * j + 4) + 4 * bt1 bs (8 * j + 5) + 2 * bt1 bs (8 * j + 6) + bt1 bs (8 * j + 7)
def bytesOf (bs : List Bool) : List Nat := (List.range ((bs.length + 7) / 8)).map (byteAt bs)
theorem byteAt_lt (bs : List Bool) (j : Nat) : byteAt bs j < 256 := by
  have h0 := bt1_le bs (8 * j); have h1 := bt1_le bs (8 * j + 1); have h2 := bt1_le bs (8 * j + 2); have h3 := bt1_le bs (8 * j + 3)
  have h4 := bt1_le bs (8 * j + 4); have h5 := bt1_le bs (8 * j + 5); have h6 := bt1_le bs (8 * j + 6); have h7 := bt1_le bs (8 * j + 7)
  unfold byteAt
  omega
theorem byteAt_old {bs : List Bool} {j : Nat} (b : Bool) (h : j ≠ bs.length / 8) : byteAt (bs ++ [b]) j = byteAt bs j := by
  unfold byteAt
  rw [bt1_old b (by omega), bt1_old b (by omega), bt1_old b (by omega), bt1_old b (by omega), bt1_old b (by omega), bt1_old b (by omega), bt1_old b (by omega), bt1_old b (by omega)]
theorem byteAt_far {bs : List Bool} {j : Nat} (h : bs.length ≤ 8 * j) : byteAt bs j = 0 := by
  unfold byteAt
  rw [bt1_far (by omega), bt1_far (by omega), bt1_far (by omega), bt1_far (by omega), bt1_far (by omega), bt1_far (by omega), bt1_far (by omega), bt1_far (by omega)]
theorem bt1_here {bs : List Bool} {i : Nat} (b : Bool) : bt1 (bs ++ [b]) i = bt1 bs i + (if i = bs.length then bv b else 0) := by
  by_cases h : i = bs.length
  · subst h
    rw [bt1_new, bt1_far (Nat.le_refl _), if_pos rfl]; omega
  · rw [bt1_old b h, if_neg h]; rfl
theorem byteAt_new (bs : List Bool) (b : Bool) {q r : Nat} (hl : bs.length = 8 * q + r) (hr : r < 8) : byteAt (bs ++ [b]) q = byteAt bs q + bv b * 2 ^ (7 - r) := by
  have h : ∀ i, bt1 (bs ++ [b]) (8 * q + i) = bt1 bs (8 * q + i) + (if i = r then bv b else 0) := fun i => by
    rw [bt1_here, hl]
    by_cases e : i = r
    · rw [if_pos (by omega), if_pos e]
    · rw [if_neg (by omega), if_neg e]
  have h0 := h 0
  rw [Nat.add_zero] at h0
  unfold byteAt
  rw [h0, h 1, h 2, h 3, h 4, h 5, h 6, h 7]
  have : r = 0 ∨ r = 1 ∨ r = 2 ∨ r = 3 ∨ r = 4 ∨ r = 5 ∨ r = 6 ∨ r = 7 := by omega
  rcases this with rfl | rfl | rfl | rfl | rfl | rfl | rfl | rfl <;> simp <;> omega
/-- The bits that are free yet are 0. -/
theorem byteAt_free {bs : List Bool} {q r : Nat} (hl : bs.length = 8 * q + r) (hr : r < 8) : ∃ m, byteAt bs q = m * 2 ^ (8 - r) := by
  have h : ∀ i, r ≤ i → bt1 bs (8 * q + i) = 0 := fun i hi => bt1_far (by omega)
  unfold byteAt
  have : r = 0 ∨ r = 1 ∨ r = 2 ∨ r = 3 ∨ r = 4 ∨ r = 5 ∨ r = 6 ∨ r = 7 := by omega
  rcases this with rfl | rfl | rfl | rfl | rfl | rfl | rfl | rfl
  · have h0 := h 0 (by omega); rw [Nat.add_zero] at h0
    exact ⟨0, by rw [h0, h 1 (by omega), h 2 (by omega), h 3 (by omega), h 4 (by omega), h 5 (by omega), h 6 (by omega), h 7 (by omega)]⟩
  · exact ⟨bt1 bs (8 * q), by rw [h 1 (by omega), h 2 (by omega), h 3 (by omega), h 4 (by omega), h 5 (by omega), h 6 (by omega), h 7 (by omega)]; omega⟩
  · exact ⟨2 * bt1 bs (8 * q) + bt1 bs (8 * q + 1), by rw [h 2 (by omega), h 3 (by omega), h 4 (by omega), h 5 (by omega), h 6 (by omega), h 7 (by omega)]; omega⟩
  · exact ⟨4 * bt1 bs (8 * q) + 2 * bt1 bs (8 * q + 1) + bt1 bs (8 * q + 2), by rw [h 3 (by omega), h 4 (by omega), h 5 (by omega), h 6 (by omega), h 7 (by omega)]; omega⟩
  · exact ⟨8 * bt1 bs (8 * q) + 4 * bt1 bs (8 * q + 1) + 2 * bt1 bs (8 * q + 2) + bt1 bs (8 * q + 3), by rw [h 4 (by omega), h 5 (by omega), h 6 (by omega), h 7 (by omega)]; omega⟩
  · exact ⟨16 * bt1 bs (8 * q) + 8 * bt1 bs (8 * q + 1) + 4 * bt1 bs (8 * q + 2) + 2 * bt1 bs (8 * q + 3) + bt1 bs (8 * q + 4), by rw [h 5 (by omega), h 6 (by omega), h 7 (by omega)]; omega⟩
  · exact ⟨32 * bt1 bs (8 * q) + 16 * bt1 bs (8 * q + 1) + 8 * bt1 bs (8 * q + 2) + 4 * bt1 bs (8 * q + 3) + 2 * bt1 bs (8 * q + 4) + bt1 bs (8 * q + 5), by rw [h 6 (by omega), h 7 (by omega)]; omega⟩
  · exact ⟨64 * bt1 bs (8 * q) + 32 * bt1 bs (8 * q + 1) + 16 * bt1 bs (8 * q + 2) + 8 * bt1 bs (8 * q + 3) + 4 * bt1 bs (8 * q + 4) + 2 * bt1 bs (8 * q + 5) + bt1 bs (8 * q + 6), by rw [h 7 (by omega)]; omega⟩
/-- What is read is what was written. -/
theorem byteAt_read (bs : List Bool) (q : Nat) {r : Nat} (hr : r < 8) : byteAt bs q / 2 ^ (7 - r) % 2 = bt1 bs (8 * q + r) := by
  have h0 := bt1_le bs (8 * q); have h1 := bt1_le bs (8 * q + 1); have h2 := bt1_le bs (8 * q + 2); have h3 := bt1_le bs (8 * q + 3)
  have h4 := bt1_le bs (8 * q + 4); have h5 := bt1_le bs (8 * q + 5); have h6 := bt1_le bs (8 * q + 6); have h7 := bt1_le bs (8 * q + 7)
  unfold byteAt
  have : r = 0 ∨ r = 1 ∨ r = 2 ∨ r = 3 ∨ r = 4 ∨ r = 5 ∨ r = 6 ∨ r = 7 := by omega
  rcases this with rfl | rfl | rfl | rfl | rfl | rfl | rfl | rfl <;> simp <;> omega
theorem bytesOf_length (bs : List Bool) : (bytesOf bs).length = (bs.length + 7) / 8 := by simp [bytesOf]
theorem bytesOf_at {bs : List Bool} {j : Nat} (h : j < (bs.length + 7) / 8) : (bytesOf bs)[j]? = some (byteAt bs j) := by
  unfold bytesOf
  rw [List.getElem?_map, List.getElem?_range h]; rfl
/-- A bit at the beginning of a byte. -/
theorem bytesOf_grow {bs : List Bool} {q : Nat} (b : Bool) (hl : bs.length = 8 * q) : bytesOf (bs ++ [b]) = bytesOf bs ++ [bv b * 128] := by
  have hl2 : (bs ++ [b]).length = bs.length + 1 := by simp
  unfold bytesOf
  rw [hl2, show (bs.length + 1 + 7) / 8 = q + 1 from by omega, show (bs.length + 7) / 8 = q from by omega, List.range_succ, List.map_append]
  congr 1
  · exact List.map_congr_left fun j hj => byteAt_old b (by have := List.mem_range.1 hj; omega)
  · have := byteAt_new bs b (q := q) (r := 0) (by omega) (by omega)
    rw [byteAt_far (bs := bs) (j := q) (by omega)] at this
    rw [List.map_cons, List.map_nil, this, Nat.zero_add]
/-- A bit within a byte. -/
theorem bytesOf_more {bs : List Bool} {q r : Nat} (b : Bool) (hl : bs.length = 8 * q + r) (h0 : 0 < r) (hr : r < 8) : bytesOf (bs ++ [b]) = (bytesOf bs).set q (byteAt bs q + bv b * 2 ^ (7 - r)) := by
  have hl2 : (bs ++ [b]).length = bs.length + 1 := by simp
  refine List.ext_getElem? fun j => ?_
  by_cases hj : j < q + 1
  · rw [bytesOf_at (by omega)]
    by_cases hq : j = q
    · subst hq
      rw [List.getElem?_set_self (by rw [bytesOf_length]; omega), byteAt_new bs b hl hr]
    · rw [List.getElem?_set_ne (by omega), bytesOf_at (by omega), byteAt_old b (by omega)]
  · rw [List.getElem?_eq_none (by rw [bytesOf_length]; omega), List.getElem?_eq_none (by rw [List.length_set, bytesOf_length]; omega)]
/-- n bits of k, the highest first. -/
def kb (k : Nat) : Nat → List Bool
  | 0 => []
  | n + 1 => decide (k / 2 ^ n % 2 = 1) :: kb k n
theorem kb_length (k : Nat) : ∀ n, (kb k n).length = n
  | 0 => rfl
  | n + 1 => by simp [kb, kb_length k n]
theorem bv_bit (k n : Nat) : bv (decide (k / 2 ^ n % 2 = 1)) = k / 2 ^ n % 2 := by
  unfold bv
  by_cases h : k / 2 ^ n % 2 = 1
  · simp [h]
  · simp [h]; omega
end Go.Proofs.YtefhcgnamfnkbaaDoor.Sb
namespace Go.Proofs.YtefhcgnamfnkbaaDoor.Sb
/-- Bytes as integers. -/
def bi (l : List Nat) : List Int := l.map fun (x : Nat) => (x : Int)
theorem bi_app (l m : List Nat) : bi l ++ bi m = bi (l ++ m) := by simp [bi]
theorem bi_set (l : List Nat) (i x : Nat) : (bi l).set i (x : Int) = bi (l.set i x) := by simp [bi, List.map_set]
theorem bi_len (l : List Nat) : (bi l).length = l.length := by simp [bi]
theorem bi_at {l : List Nat} {i x : Nat} (h : l[i]? = some x) : (bi l).getD i 0 = (x : Int) := by
  rw [List.getD_eq_getElem?_getD]; simp [bi, h]
/-- Where a bit is to be written: the last byte, as it is, and what it will be. -/
structure Spot (bs : List Bool) (ys : List Int) (L free : Nat) : Prop where
  len : L = bs.length / 8 + 1
  fr : free = 8 - bs.length % 8
  at_ : ys.getD (L - 1) 0 = (byteAt bs (L - 1) : Int)
  put : ∀ b, ys.set (L - 1) ((byteAt bs (L - 1) + bv b * 2 ^ (free - 1) : Nat) : Int) = bi (bytesOf (bs ++ [b]))
theorem spot_new {bs : List Bool} {L : Nat} (h : 8 * L = bs.length) : Spot bs (bi (bytesOf bs) ++ [0]) (L + 1) 8 := by
  have hl : (bytesOf bs).length = L := by rw [bytesOf_length]; omega
  have h0 : byteAt bs L = 0 := byteAt_far (by omega)
  refine ⟨by omega, by omega, ?_, fun b => ?_⟩
  · rw [Nat.add_sub_cancel, h0, List.getD_eq_getElem?_getD, List.getElem?_append_right (by rw [bi_len]; omega), bi_len, hl, Nat.sub_self]; rfl
  · rw [Nat.add_sub_cancel, h0, bytesOf_grow (q := L) b (by omega), ← bi_app, List.set_append_right _ _ (by rw [bi_len]; omega), bi_len, hl, Nat.sub_self, Nat.zero_add]; rfl
theorem spot_old {bs : List Bool} {L free : Nat} (h : 8 * L = bs.length + free) (h0 : 0 < free) (h8 : free < 8) : Spot bs (bi (bytesOf bs)) L free := by
  have hq : L - 1 = bs.length / 8 := by omega
  refine ⟨by omega, by omega, bi_at (by rw [bytesOf_at (by omega)]), fun b => ?_⟩
  rw [bi_set, bytesOf_more (q := L - 1) (r := bs.length % 8) b (by omega) (by omega) (by omega)]
  rw [show free - 1 = 7 - bs.length % 8 from by omega]
end Go.Proofs.YtefhcgnamfnkbaaDoor.Sb
namespace Go.Proofs.YtefhcgnamfnkbaaDoor.Pr
open Go.RowKit Go.Proofs.YtefhcgnamfnkbaaDoorW.PrintWords Go.Proofs.YtefhcgnamfnkbaaDoorW.PrintLast Go.Proofs.YtefhcgnamfnkbaaDoorW.PrintMore
open Go.Proofs.YtefhcgnamfnkbaaDoor.Sb
set_option linter.unusedVariables false
set_option linter.unusedSimpArgs false
/-- The writer of bits at p, and its bytes. -/
structure Py (w : World) (p : Nat) (A : Option Addr) (L cap : Nat) (free : Int) (ys : List Int) : Prop where
  box : w.heap[p]? = some (.cells #[.slice A L cap, .int .i64 free] 69 (0, 0))
  own : w.ownsRow (p + 1) 5 1 (.slice A L cap) L (ub ys)
variable {w w' : World} {p : Nat} {A : Option Addr} {L cap : Nat} {free : Int} {ys : List Int}
theorem Py.up (h : Py w p A L cap free ys) (k : Below w.heap.size w w') : Py w' p A L cap free ys := ⟨blk_below h.box k, own_move h.own (fun i hi => k.block i (own_lt h.own i hi))⟩
theorem Py.c0 (h : Py w p A L cap free ys) : w.cell? ⟨p, 0, none⟩ = some (.slice A L cap) := (blk_cell h.box 0).trans rfl
theorem Py.c1 (h : Py w p A L cap free ys) : w.cell? ⟨p, 1, none⟩ = some (.int .i64 free) := (blk_cell h.box 1).trans rfl
theorem Py.free_ (h : Py w p A L cap free ys) (j : Nat) : w.frozen? ⟨p, j, none⟩ = false := blk_frozen h.box j
theorem Py.kept (h : Py w p A L cap free ys) {w2 w1 : World} (hb : Below w.heap.size w w2) (hg : w2.grownBy w1 (Value.slice A L cap).ownBlock) : w1.heap[p]? = some (.cells #[.slice A L cap, .int .i64 free] 69 (0, 0)) := by
  rw [hg.block p (Nat.lt_of_lt_of_le (blk_lt h.box) hb.size) (fun e => by have := own_base h.own p e.symm; omega)]
  exact blk_below h.box hb
/-- A byte more. -/
theorem Py.grow (h : Py w p A L cap free ys) {w2 w1 : World} {gg cap1 : Nat} {v : Int} (hb : Below w.heap.size w w2) (hg : w2.grownBy w1 (Value.slice A L cap).ownBlock)
    (hw : w1.ownsRow (p + 1) 5 1 (.slice (some ⟨gg, 0, none⟩) (L + 1) cap1) (L + 1) (ub ys ++ [.int .u8 v])) :
    Py ((w1.setCell ⟨p, 0, none⟩ (.slice (some ⟨gg, 0, none⟩) (L + 1) cap1)).setCell ⟨p, 1, none⟩ (.int .i64 8)) p (some ⟨gg, 0, none⟩) (L + 1) cap1 8 (ys ++ [v]) ∧ Aw p w ((w1.setCell ⟨p, 0, none⟩ (.slice (some ⟨gg, 0, none⟩) (L + 1) cap1)).setCell ⟨p, 1, none⟩ (.int .i64 8)) := by
  have hk := h.kept hb hg
  have ho := h.own
  refine ⟨⟨blk_put (cs' := #[.slice (some ⟨gg, 0, none⟩) (L + 1) cap1, .int .i64 8]) (blk_put (cs' := #[.slice (some ⟨gg, 0, none⟩) (L + 1) cap1, .int .i64 free]) hk 0 _ rfl) 1 _ rfl, ?_⟩, (Aw.set (Aw.set ?_))⟩
  · rw [← ub_app]
    refine own_move hw (fun k hk => ?_)
    have hB := own_base hw k hk
    rw [Below.heap_setCell _ ⟨p, 1, none⟩ _ k (by show k ≠ p; omega), Below.heap_setCell _ ⟨p, 0, none⟩ _ k (by show k ≠ p; omega)]
  · refine ⟨hg.os.trans hb.os, hg.tape.trans hb.tape, hg.output.trans hb.output, Nat.le_trans hb.size hg.size, fun k hk hp ht => ?_⟩
    rw [hg.block k (Nat.lt_of_lt_of_le hk hb.size) (fun e => ?_), hb.block k hk]
    have hB := own_base ho k e.symm
    obtain ⟨cs, hcs⟩ := own_typed ho k e.symm
    rcases ht with ht | ht
    · omega
    · exact ht cs _ hcs
theorem Py.at_ (h : Py w p A L cap free ys) {i : Nat} (hi : i < L) : ∃ g, A = some ⟨g, 0, none⟩ ∧ p < g ∧ w.cell? ⟨g, i, none⟩ = some (.int .u8 (ys.getD i 0)) ∧ w.frozen? ⟨g, i, none⟩ = false ∧
    ∀ x : Int, Py (w.setCell ⟨g, i, none⟩ (.int .u8 x)) p A L cap free (ys.set i x) ∧ Aw p w (w.setCell ⟨g, i, none⟩ (.int .u8 x)) := by
  have ho := h.own
  have hl : ys.length = L := by have := ho.1; simp [ub] at this; omega
  obtain ⟨g, cap', hv, _, hlt⟩ := ho.form (by omega)
  simp only [Value.slice.injEq] at hv
  obtain ⟨rfl, _, rfl⟩ := hv
  have hgp := own_base ho g (by simp [Value.ownBlock])
  have hx : (ub ys)[i]? = some (.int .u8 (ys.getD i 0)) := by
    simp [ub, List.getElem?_eq_getElem (show i < ys.length by omega)]
  have hc := ho.cells (g := g) rfl i _ hx
  have e1 : (⟨g, 0, none⟩ : Addr).add i = ⟨g, i, none⟩ := by unfold Addr.add; by_cases h0 : i = 0 <;> simp [h0]
  rw [e1] at hc
  refine ⟨g, rfl, by omega, hc, ho.frozenAt i, fun x => ⟨⟨blk_far h.box (by show p ≠ g; omega) _, ?_⟩, ⟨rfl, rfl, rfl, by rw [World.size_setCell]; exact Nat.le_refl _, fun k hk hp ht => Below.heap_setCell w ⟨g, i, none⟩ _ k ?_⟩⟩⟩
  · have hs := ho.stored i (.int .u8 x)
    have e2 : (ub ys).set i (.int .u8 x) = ub (ys.set i x) := by simp [ub, List.map_set]
    rw [← e2]
    exact hs.1
  · show k ≠ g
    rintro rfl
    obtain ⟨cs, hcs⟩ := own_typed ho k (by simp [Value.ownBlock])
    rcases ht with ht | ht
    · omega
    · exact ht cs _ hcs
theorem Py.less (h : Py w p A L cap free ys) {f' : Int} : Py (w.setCell ⟨p, 1, none⟩ (.int .i64 f')) p A L cap f' ys ∧ Aw p w (w.setCell ⟨p, 1, none⟩ (.int .i64 f')) := by
  have ho := h.own
  refine ⟨⟨blk_put (cs' := #[.slice A L cap, .int .i64 f']) h.box 1 _ rfl, own_move ho (fun k hk => ?_)⟩, Aw.set (Aw.refl _ _)⟩
  have hB := own_base ho k hk
  exact Below.heap_setCell w ⟨p, 1, none⟩ _ k (by show k ≠ p; omega)
theorem and_one' (x : Nat) (h : x < 9223372036854775808) : bits .and .i64 (x : Int) 1 = ((x % 2 : Nat) : Int) := by
  have h2 := bits_mask .i64 63 (by decide) (fun n h0 h1 => by rw [IntKind.wrap_i64]; omega) 1 (by decide) (x : Int) (by omega) (by omega)
  have h3 : ((2 : Int) ^ 1 - 1) = 1 := by decide
  rw [h3] at h2
  rw [h2, Int.natCast_emod]; rfl
theorem put_val {bs : List Bool} {ys : List Int} {L f k i : Nat} (h : Spot bs ys L f) (hi : i ≤ 63) (hk : k < 9223372036854775808) :
    bits .or .u8 (byteAt bs (L - 1) : Int) (bits .and .i64 ((k : Int) / 2 ^ i) 1 % 256 * 2 ^ (f - 1) % 256) = ((byteAt bs (L - 1) + bv (decide (k / 2 ^ i % 2 = 1)) * 2 ^ (f - 1) : Nat) : Int) := by
  have hd : (k : Int) / 2 ^ i = ((k / 2 ^ i : Nat) : Int) := by rw [Int.natCast_ediv, Int.natCast_pow]; rfl
  have hlt : k / 2 ^ i < 9223372036854775808 := Nat.lt_of_le_of_lt (Nat.div_le_self _ _) hk
  rw [hd, and_one' _ hlt, bv_bit]
  have hb2 : k / 2 ^ i % 2 < 2 := Nat.mod_lt _ (by omega)
  generalize k / 2 ^ i % 2 = b at hb2
  obtain ⟨r, hr⟩ : ∃ r, r = bs.length % 8 := ⟨_, rfl⟩
  have hr8 : r < 8 := by omega
  have hlen : bs.length = 8 * (L - 1) + r := by have := h.len; omega
  have hf : f = 8 - r := by rw [hr]; exact h.fr
  obtain ⟨m, hmm⟩ := byteAt_free hlen hr8
  have h256 := byteAt_lt bs (L - 1)
  rw [hmm] at h256 ⊢
  rw [← hf] at h256 ⊢
  have hfc : f = 1 ∨ f = 2 ∨ f = 3 ∨ f = 4 ∨ f = 5 ∨ f = 6 ∨ f = 7 ∨ f = 8 := by omega
  clear hmm hlen hr8 hf hr hd hlt hk
  have hy : ∀ c : Nat, b * c < 256 → ((b : Int) % 256 * ((c : Nat) : Int)) % 256 = ((b * c : Nat) : Int) := fun c hc => by
    have e1 : (b : Int) % 256 = b := by omega
    rw [e1, ← Int.natCast_mul]
    omega
  have hp : ∀ e : Nat, ((2 : Int) ^ e) = ((2 ^ e : Nat) : Int) := fun e => by rw [Int.natCast_pow]; rfl
  rw [hp (f - 1)]
  have hbc : b * 2 ^ (f - 1) < 2 ^ f := by
    have : 2 ^ f = 2 * 2 ^ (f - 1) := by rw [← Nat.pow_succ']; congr 1; omega
    have h3 : b * 2 ^ (f - 1) ≤ 1 * 2 ^ (f - 1) := Nat.mul_le_mul_right _ (by omega)
    have h4 := Nat.two_pow_pos (f - 1)
    omega
  have hf8 : 2 ^ f ≤ 256 := by
    have : 2 ^ f ≤ 2 ^ 8 := Nat.pow_le_pow_right (by omega) (by omega)
    exact this
  rw [hy _ (by omega)]
  have hj := bits_join .u8 8 (by decide) wraps_u8 f ((m * 2 ^ f : Nat) : Int) ((b * 2 ^ (f - 1) : Nat) : Int) (Int.natCast_nonneg _) (by rw [hp f, ← Int.natCast_emod, Nat.mul_mod_left]; rfl) (by omega) (Int.natCast_nonneg _) (by rw [hp f]; exact Int.ofNat_lt.2 hbc) (by omega)
  rw [hj, ← Int.natCast_add]
/-- The bits that were written. -/
def Px (w : World) (p : Nat) (A : Option Addr) (L cap free : Nat) (bs : List Bool) : Prop := Py w p A L cap (free : Int) (bi (bytesOf bs)) ∧ 8 * L = bs.length + free ∧ free < 8
set_option maxHeartbeats 8000000 in
set_option maxRecDepth 100000 in
theorem bput_x (p k n : Nat) (A : Option Addr) (L cap free : Nat) (bs : List Bool) (w : World) (h : Px w p A L cap free bs) (hk64 : k < 9223372036854775808) (hn : n ≤ 63) (hL : bs.length ≤ 1099511627776) :
    Calls Tryd.prog 32 #[.pointer (some ⟨p, 0, none⟩), .int .i64 (k : Int), .int .i64 (n : Int)] w fun r w' => r = .returned (.tuple #[]) ∧ ∃ A' L' cap' free', Px w' p A' L' cap' free' (bs ++ kb k n) ∧ Aw p w w' := by
  have H := Aside0.mk h
  clear h
  go_enter Tryd.func32, Tryd.ntmps32
  go_wp2_with (fail)
  go_loopg [6] n (fun kq v6 w' => ∃ (j : Nat) (A1 : Option Addr) (L1 cap1 f1 : Nat) (bs1 : List Bool), v6 = .int .i64 ((j : Int) - 1) ∧ j ≤ kq ∧ j ≤ n ∧ Aside0 (bs1 ++ kb k j = bs ++ kb k n) ∧ Aside0 (Px w' p A1 L1 cap1 f1 bs1) ∧ Aside0 (Aw p w w'))
  case atStart => exact ⟨n, A, L, cap, free, bs, rfl, by omega, by omega, ⟨rfl⟩, H, ⟨Aw.refl _ _⟩⟩
  case round =>
    clear H
    obtain ⟨j, A1, L1, cap1, f1, bs1, rfl, hk, hjn, E, S, SA⟩ := hrel
    by_cases hj : 0 < j
    · obtain ⟨i, rfl⟩ : ∃ i, j = i + 1 := ⟨j - 1, by omega⟩
      have hbl : bs1.length ≤ 1099511700000 := by
        have h1 := congrArg List.length E.out
        rw [List.length_append, List.length_append, kb_length, kb_length] at h1
        omega
      have hL1 : L1 ≤ 1099511700000 := by have := S.out.2.1; have := S.out.2.2; omega
      have c0 := S.out.1.c0
      have c1 := S.out.1.c1
      have e0 := S.out.1.free_ 0
      have e1 := S.out.1.free_ 1
      have b1 : f1 ≤ 7 := by have := S.out.2.2; omega
      have hi2 : (((i + 1 : Nat) : Int) - 1) = (i : Int) := by omega
      rw [hi2]
      go_upto_if 17 with (fail)
      go_cut [] (fun wx => ∃ (A2 : Option Addr) (L2 cap2 f2 : Nat) (ys2 : List Int), 1 ≤ f2 ∧ f2 ≤ 8 ∧ 1 ≤ L2 ∧ L2 ≤ 1099511700001 ∧ Aside0 (Spot bs1 ys2 L2 f2) ∧ Aside0 (Py wx p A2 L2 cap2 f2 ys2) ∧ Aside0 (Aw p w wx))
      case first =>
        by_cases hf : f1 = 0
        · subst hf
          obtain ⟨i0, hi0, hz0, hz1, hz2⟩ := info_parts byte_info
          have hlt := blk_lt S.out.1.box
          go_wp2_with (first | (at_builtin; refine wpList_append_lies _ rfl _ _ _ (by rfl) (p + 1) 5 i0 _ 1 1 Tryd.underlying29 hi0 hz0 hz1 hz2 rfl (by omega) (.slice A1 L1 cap1) L1 (ub (bi (bytesOf bs1))) (by rfl) (S.out.1.own.alloc _) ⟨wr.heap.size, 0, none⟩ 1 1 [.int .u8 0] (by rfl) (by rfl) (World.news_of_block (cs := #[.int .u8 0]) (t := 5) (fr := (0, 0)) (heap_alloc_new wr _)) (by simp [Value.oneCell']) (by omega) (by simp only [maxLen]; omega) (by omega) (by simp only [World.size_alloc]; omega) (wr.heap.size + 1) (by simp) ?_; intro gg cap2 w5 hown1 hgrow hat hlt1; have hk1 := Aside0.mk (S.out.1.kept climb hgrow); have d0 := (blk_cell hk1.out 0).trans rfl; have d1 := (blk_cell hk1.out 1).trans rfl; have e2 := blk_frozen hk1.out 0; have e3 := blk_frozen hk1.out 1))
          go_meet
          case rel =>
            have G := S.out.1.grow climb hgrow hown1
            exact ⟨_, L1 + 1, cap2, 8, _, by omega, by omega, by omega, by omega, ⟨spot_new (by have := S.out.2.1; omega)⟩, ⟨G.1⟩, ⟨SA.out.trans G.2⟩⟩
        · have hq : ((f1 : Int) == 0) = false := beq_eq_false_iff_ne.2 (by omega)
          have hpos : 0 < f1 := by omega
          have hL2 : 1 ≤ L1 := by have := S.out.2.1; omega
          clear hf
          go_wp2
          go_meet
          case rel => exact ⟨A1, L1, cap1, f1, _, by omega, by omega, hL2, by omega, ⟨spot_old S.out.2.1 hpos S.out.2.2⟩, ⟨S.out.1⟩, SA⟩
      case rest =>
        clear c0 c1 e0 e1 b1 S SA hL1
        obtain ⟨A2, L2, cap2, f2, ys2, hf1, hf8, hL1, hL2, SP, S, SA⟩ := hcut
        have c0 := S.out.c0
        have c1 := S.out.c1
        have e0 := S.out.free_ 0
        have e1 := S.out.free_ 1
        have G1 := S.out.less (f' := (f2 : Int) - 1)
        have S1 := Aside0.mk G1.1
        have SA1 := Aside0.mk (SA.out.trans G1.2)
        clear G1
        go_upto_region 6 with (fail)
        obtain ⟨W, hW⟩ : ∃ W, W = wc.setCell ⟨p, 1, none⟩ (.int .i64 ((f2 : Int) - 1)) := ⟨_, rfl⟩
        rw [← hW] at S1 SA1 ⊢
        clear c0 c1 e0 e1 S SA hW
        have c0 := S1.out.c0
        have c1 := S1.out.c1
        obtain ⟨g', rfl, hpg, cv, fv, hput⟩ := S1.out.at_ (i := L2 - 1) (by omega)
        rw [SP.out.at_] at cv
        have r1 : 0 ≤ (L2 : Int) - 1 := by omega
        have r2 : ((L2 : Int) - 1).toNat = L2 - 1 := by omega
        have r3 : (L2 : Int) - 1 < L2 := by omega
        have r4 : 0 ≤ (f2 : Int) - 1 := by omega
        have r5 : (0 : Int) ≤ (i : Int) := by omega
        have HP := Aside0.mk hput
        clear hput
        have PV := Aside0.mk (put_val (k := k) (i := i) SP.out (by omega) hk64)
        have EE := Aside0.mk (show (bs1 ++ [decide (k / 2 ^ i % 2 = 1)]) ++ kb k i = bs ++ kb k n by rw [← E.out, List.append_assoc]; rfl)
        have LL := Aside0.mk (show 8 * L2 = (bs1 ++ [decide (k / 2 ^ i % 2 = 1)]).length + (f2 - 1) by have h1 := SP.out.len; have h2 := SP.out.fr; rw [List.length_append]; simp; omega)
        go_region
        rw [PV.out]
        obtain ⟨H1, H2⟩ := HP.out (((byteAt bs1 (L2 - 1) + bv (decide (k / 2 ^ i % 2 = 1)) * 2 ^ (f2 - 1) : Nat) : Int))
        rw [SP.out.put] at H1
        have HF := Aside0.mk H1
        have HG := Aside0.mk H2
        clear H1 H2
        go_wp2
        go_roundg i
        case measure => omega
        case rel => exact ⟨i, _, L2, cap2, f2 - 1, _, rfl, by omega, by omega, EE, ⟨(by rw [show ((f2 - 1 : Nat) : Int) = (f2 : Int) - 1 by omega]; exact HF.out.up climb), LL.out, by omega⟩, ⟨(SA1.out.trans HG.out).climb climb⟩⟩
    · obtain rfl : j = 0 := by omega
      go_wp2
      go_end0
      have e := E.out
      rw [show kb k 0 = [] from rfl, List.append_nil] at e
      refine ⟨rfl, A1, L1, cap1, f1, ?_, SA.out.climb climb⟩
      rw [← e]
      exact ⟨S.out.1.up climb, S.out.2⟩
end Go.Proofs.YtefhcgnamfnkbaaDoor.Pr
