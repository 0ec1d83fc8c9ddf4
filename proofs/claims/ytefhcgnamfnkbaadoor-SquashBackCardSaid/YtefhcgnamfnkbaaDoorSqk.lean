/- squash.tokens, walked by hand. -/
import Derived.Test.YtefhcgnamfnkbaaDoorSqb
import Derived.Test.YtefhcgnamfnkbaaDoorSqi
import Derived.Test.YtefhcgnamfnkbaaDoorSqx
namespace Go.Proofs.YtefhcgnamfnkbaaDoor.Pr
open Go.RowKit Go.Proofs.YtefhcgnamfnkbaaDoorW.PrintWords Go.Proofs.YtefhcgnamfnkbaaDoorW.PrintLast Go.Proofs.YtefhcgnamfnkbaaDoorW.PrintMore
set_option linter.unusedVariables false
set_option linter.unusedSimpArgs false
variable {w w' : World}
set_option maxHeartbeats 4000000 in
set_option maxRecDepth 100000 in
theorem hash_calls (p : Nat) (s : ByteArray) (i : Int) (w : World) (c0 : w.cell? ⟨p, 0, none⟩ = some (.string s)) (h0 : 0 ≤ i) (h1 : i + 3 ≤ (s.size : Int)) (hs : s.size ≤ 1000000) :
    Calls Tryd.prog 71 #[.int .i64 i, .pointer (some ⟨p, 0, none⟩)] w fun r w' => ∃ v, r = .returned (.int .i64 v) ∧ 0 ≤ v ∧ v ≤ 32767 ∧ Below w.heap.size w w' := by
  have q1 : i < (s.size : Int) := by omega
  have q2 : i + 1 < (s.size : Int) := by omega
  have q3 : i + 2 < (s.size : Int) := by omega
  have q4 : 0 ≤ i + 1 := by omega
  have q5 : 0 ≤ i + 2 := by omega
  go_enter Tryd.func71, Tryd.ntmps71
  go_wp2
  repeat (go_quiet (fail); try go_wp2)
  go_ret
  exact ⟨_, rfl, (bits_and_32767 _).1, (bits_and_32767 _).2, climb⟩
/-- A token's four numbers. -/
structure Tk where
  y : Int
  a : Int
  x : Int
  b : Int
def flat4 : List Tk → List Value
  | [] => []
  | t :: r => .int .i64 t.y :: .int .i64 t.a :: .int .i64 t.x :: .int .i64 t.b :: flat4 r
theorem flat4_app (l : List Tk) (t : Tk) : flat4 l ++ [.int .i64 t.y, .int .i64 t.a, .int .i64 t.x, .int .i64 t.b] = flat4 (l ++ [t]) := by
  induction l with
  | nil => rfl
  | cons u r ih => simp only [flat4, List.cons_append, ih]
theorem flat4_len (l : List Tk) : (flat4 l).length = l.length * 4 := by
  induction l with
  | nil => rfl
  | cons u r ih => simp only [flat4, List.length_cons, ih]; omega
theorem flat4_at : ∀ (l : List Tk) (i : Nat) (t : Tk), l[i]? = some t → (flat4 l)[i * 4]? = some (.int .i64 t.y) ∧ (flat4 l)[i * 4 + 1]? = some (.int .i64 t.a) ∧ (flat4 l)[i * 4 + 2]? = some (.int .i64 t.x) ∧ (flat4 l)[i * 4 + 3]? = some (.int .i64 t.b)
  | [], i, t, h => by simp at h
  | u :: r, 0, t, h => by
    simp at h
    subst h
    exact ⟨rfl, rfl, rfl, rfl⟩
  | u :: r, i + 1, t, h => by
    have ih := flat4_at r i t (by simpa using h)
    rw [show (i + 1) * 4 = i * 4 + 4 from by omega]
    exact ih
def GoodT (t : Tk) : Prop := 0 ≤ t.y ∧ t.y < 272 ∧ 0 ≤ t.x ∧ t.x ≤ 8
theorem goodT_byte (b : UInt8) : GoodT ⟨wrap64 (b.toNat : Int), 0, 0, 0⟩ := by
  have hu := UInt8.toNat_lt b
  have hw : wrap64 (b.toNat : Int) = (b.toNat : Int) := by unfold wrap64; omega
  refine ⟨?_, ?_, Int.le_refl 0, ?_⟩
  · show 0 ≤ wrap64 (b.toNat : Int)
    rw [hw]; omega
  · show wrap64 (b.toNat : Int) < 272
    rw [hw]; omega
  · show (0 : Int) ≤ 8
    decide
theorem goodT_mk {y a x b : Int} (h0 : 0 ≤ y) (h1 : y < 272) (h2 : 0 ≤ x) (h3 : x ≤ 8) : GoodT ⟨y, a, x, b⟩ := ⟨h0, h1, h2, h3⟩
theorem tok_info : (Tryd.prog.info? 72).map (fun i => (i.zero, i.size, i.bytes)) = some (some (.agg #[.int .i64 0, .int .i64 0, .int .i64 0, .int .i64 0]), 4, 32) := by kernel_rfl
/-- Where tokens stands: at i; L tokens written. -/
structure Tz (w0 w : World) (s : ByteArray) (i : Nat) (A : Option Addr) (L cap : Nat) : Prop where
  box : w.heap[w0.heap.size]? = some (.cells #[.string s] 9 (0, 0))
  hd : Iv w (w0.heap.size + 1) 32768 (fun v => -1 ≤ v ∧ v < i)
  ch : Iv w (w0.heap.size + 2) s.size (fun v => -1 ≤ v ∧ (v < i ∨ v = 0))
  own : ∃ ts, w.ownsRow (w0.heap.size + 3) 72 4 (.slice A L cap) L (flat4 ts) ∧ ∀ t ∈ ts, GoodT t
  bw : Below w0.heap.size w0 w
variable {w0 : World} {s : ByteArray} {i : Nat} {A : Option Addr} {L cap : Nat}
theorem Tz.up (h : Tz w0 w s i A L cap) (k : Below w.heap.size w w') : Tz w0 w' s i A L cap := by
  obtain ⟨ts, ho, hg⟩ := h.own
  exact ⟨blk_below h.box k, h.hd.up k, h.ch.up k, ⟨ts, own_move ho (fun i hi => k.block i (own_lt ho i hi)), hg⟩, below_step h.bw k⟩
theorem Tz.c0 (h : Tz w0 w s i A L cap) : w.cell? ⟨w0.heap.size, 0, none⟩ = some (.string s) := (blk_cell h.box 0).trans rfl
/-- One place is hashed. -/
theorem Tz.put (h : Tz w0 w s i A L cap) {v q : Int} (hv : -1 ≤ v ∧ v < i) {j : Nat} : Tz w0 ((w.setCell ⟨w0.heap.size + 2, i, none⟩ (.int .i64 v)).setCell ⟨w0.heap.size + 1, j, none⟩ (.int .i64 (i : Int))) s (i + 1) A L cap := by
  obtain ⟨ts, ho, hg⟩ := h.own
  refine ⟨blk_far (blk_far h.box (by show w0.heap.size ≠ w0.heap.size + 2; omega) _) (by show w0.heap.size ≠ w0.heap.size + 1; omega) _, ?_, ?_, ⟨ts, own_move ho (fun k hk => ?_), hg⟩, below_set (below_set h.bw (by omega)) (by omega)⟩
  · exact ((h.hd.imp (P' := fun v => -1 ≤ v ∧ v < ((i + 1 : Nat) : Int)) (fun v hv => by omega)).far (by show w0.heap.size + 1 ≠ w0.heap.size + 2; omega) _).put j (by omega)
  · exact ((h.ch.imp (P' := fun v => -1 ≤ v ∧ (v < ((i + 1 : Nat) : Int) ∨ v = 0)) (fun v hv => by omega)).put i (by omega)).far (by show w0.heap.size + 2 ≠ w0.heap.size + 1; omega) _
  · have hB := own_base ho k hk
    rw [Below.heap_setCell _ ⟨w0.heap.size + 1, j, none⟩ _ k (by show k ≠ w0.heap.size + 1; omega), Below.heap_setCell _ ⟨w0.heap.size + 2, i, none⟩ _ k (by show k ≠ w0.heap.size + 2; omega)]
theorem Tz.next (h : Tz w0 w s i A L cap) : Tz w0 w s (i + 1) A L cap := ⟨h.box, h.hd.imp (fun v hv => by omega), h.ch.imp (fun v hv => by omega), h.own, h.bw⟩
theorem Tz.stored (h : Tz w0 w s i A L cap) {ts : List Tk} {w2 w1 : World} {gg cap1 : Nat} {t : Tk} (ho : w.ownsRow (w0.heap.size + 3) 72 4 (.slice A L cap) L (flat4 ts)) (hg : ∀ t ∈ ts, GoodT t) (hb : Below w.heap.size w w2) (hgr : w2.grownBy w1 (Value.slice A L cap).ownBlock)
    (hw : w1.ownsRow (w0.heap.size + 3) 72 4 (.slice (some ⟨gg, 0, none⟩) (L + 1) cap1) (L + 1) (flat4 ts ++ [.int .i64 t.y, .int .i64 t.a, .int .i64 t.x, .int .i64 t.b])) (ht : GoodT t) : Tz w0 w1 s i (some ⟨gg, 0, none⟩) (L + 1) cap1 := by
  have hn : ∀ i, (Value.slice A L cap).ownBlock = some i → w0.heap.size + 3 ≤ i := own_base ho
  have hkeep : ∀ k, k < w.heap.size → k < w0.heap.size + 3 → w1.heap[k]? = w.heap[k]? := fun k h1 h2 => by
    rw [hgr.block k (Nat.lt_of_lt_of_le h1 hb.size) (fun e => by have := hn k e.symm; omega), hb.block k h1]
  have hsz := h.bw.size
  obtain ⟨cs1, d1, d2⟩ := h.hd
  obtain ⟨cs2, d3, d4⟩ := h.ch
  refine ⟨(hkeep _ (blk_lt h.box) (by omega)).trans h.box, ⟨cs1, (hkeep _ (blk_lt d1) (by omega)).trans d1, d2⟩, ⟨cs2, (hkeep _ (blk_lt d3) (by omega)).trans d3, d4⟩, ⟨ts ++ [t], by rw [← flat4_app]; exact hw, fun u hu => ?_⟩, ⟨hgr.os.trans (hb.os.trans h.bw.os), hgr.tape.trans (hb.tape.trans h.bw.tape), hgr.output.trans (hb.output.trans h.bw.output), Nat.le_trans hsz (Nat.le_trans hb.size hgr.size), fun k hk => ?_⟩⟩
  · rcases List.mem_append.1 hu with hu | hu
    · exact hg u hu
    · rw [List.mem_singleton.1 hu]; exact ht
  · rw [hkeep k (by omega) (by omega), h.bw.block k hk]
/-- The first e heads are -1. -/
structure Hp (w0 w : World) (s : ByteArray) (e : Nat) : Prop where
  box : w.heap[w0.heap.size]? = some (.cells #[.string s] 9 (0, 0))
  hd : ∃ cs : Array Value, w.heap[w0.heap.size + 1]? = some (.cells cs 3 (0, 0)) ∧ cs.size = 32768 ∧ ∀ j, j < 32768 → ∃ v : Int, cs[j]? = some (.int .i64 v) ∧ (j < e → v = -1)
  ch : Iv w (w0.heap.size + 2) s.size (fun v => v = 0)
  bw : Below w0.heap.size w0 w
theorem Hp.put {w0 w : World} {s : ByteArray} {e : Nat} (h : Hp w0 w s e) : Hp w0 (w.setCell ⟨w0.heap.size + 1, e, none⟩ (.int .i64 (-1))) s (e + 1) := by
  obtain ⟨cs, h1, h2, h3⟩ := h.hd
  refine ⟨blk_far h.box (by show w0.heap.size ≠ w0.heap.size + 1; omega) _, ⟨_, blk_put h1 e _ rfl, by simpa using h2, fun j hj => ?_⟩, h.ch.far (by show w0.heap.size + 2 ≠ w0.heap.size + 1; omega) _, below_set h.bw (by omega)⟩
  by_cases hij : e = j
  · subst hij
    exact ⟨-1, by simp [Array.getElem?_setIfInBounds, h2, hj], fun _ => rfl⟩
  · obtain ⟨v, e1, e2⟩ := h3 j hj
    exact ⟨v, by simp [Array.getElem?_setIfInBounds, hij, e1], fun hlt => e2 (by omega)⟩
theorem Hp.tz {w0 w : World} {s : ByteArray} (h : Hp w0 w s 32768) : Tz w0 w s 0 none 0 0 := by
  obtain ⟨cs, h1, h2, h3⟩ := h.hd
  refine ⟨h.box, ⟨cs, h1, h2, fun j hj => ?_⟩, h.ch.imp (fun v hv => by omega), ⟨[], World.ownsRow_nil _ _ _ _, fun t ht => by cases ht⟩, h.bw⟩
  obtain ⟨v, e, hv⟩ := h3 j hj
  have := hv hj
  exact ⟨v, e, by omega⟩
theorem Hp.up {w0 w w' : World} {s : ByteArray} {e : Nat} (h : Hp w0 w s e) (k : Below w.heap.size w w') : Hp w0 w' s e := by
  obtain ⟨cs, h1, h2⟩ := h.hd
  exact ⟨blk_below h.box k, ⟨cs, blk_below h1 k, h2⟩, h.ch.up k, below_step h.bw k⟩
theorem hp_new (w : World) (s : ByteArray) : Hp w (((w.alloc (.cells #[.string s] 9)).alloc (.cells (madeCells #[.int .i64 0] 32768) 3)).alloc (.cells (madeCells #[.int .i64 0] s.size) 3)) s 0 := by
  obtain ⟨cs, h1, h2, h3⟩ := Iv.made (P := fun _ => True) (w.alloc (.cells #[.string s] 9)) 32768 trivial
  have h4 := Iv.made (P := fun v => v = 0) ((w.alloc (.cells #[.string s] 9)).alloc (.cells (madeCells #[.int .i64 0] 32768) 3)) s.size rfl
  simp only [World.size_alloc] at h1 h4
  refine ⟨blk_alloc (blk_alloc (blk_new w _) _) _, ⟨cs, blk_alloc h1 _, h2, fun j hj => ?_⟩, h4, climb⟩
  obtain ⟨v, e, _⟩ := h3 j hj
  exact ⟨v, e, fun h => by omega⟩
theorem Tz.two {w0 w : World} {s : ByteArray} {j : Nat} {A : Option Addr} {L cap : Nat} (S : Tz w0 w s j A L cap) (hj : j < s.size) (h1 h2 : Nat) (b1 : (h1 : Int) ≤ 32767) (b2 : (h2 : Int) ≤ 32767) (p2 : Nat) (hp : p2 = w0.heap.size + 2) :
    ∃ hz hz1 cz : Int, (-1 ≤ hz ∧ hz < j) ∧ w.cell? ⟨w0.heap.size + 1, h2, none⟩ = some (.int .i64 hz) ∧ w.cell? ⟨p2, j, none⟩ = some (.int .i64 cz) ∧ w.frozen? ⟨p2, j, none⟩ = false ∧ w.frozen? ⟨w0.heap.size + 1, h1, none⟩ = false ∧ (w.setCell ⟨p2, j, none⟩ (.int .i64 hz)).cell? ⟨w0.heap.size + 1, h1, none⟩ = some (.int .i64 hz1) := by
  subst hp
  obtain ⟨hz, ch, ph⟩ := S.hd.at_ (j := h2) (by omega)
  obtain ⟨hz1, ch1, _⟩ := S.hd.at_ (j := h1) (by omega)
  obtain ⟨cz, cc, _⟩ := S.ch.at_ (j := j) hj
  exact ⟨hz, hz1, cz, ph, ch, cc, S.ch.free j, S.hd.free h1, (cell_far (p := ⟨w0.heap.size + 2, j, none⟩) (a := ⟨w0.heap.size + 1, h1, none⟩) (by show w0.heap.size + 1 ≠ w0.heap.size + 2; omega) _).trans ch1⟩
set_option maxHeartbeats 16000000 in
set_option maxRecDepth 2000000 in
theorem tokens_calls (s : ByteArray) (w : World) (hs : s.size ≤ 1000000) (hb : Gb w) (hg : 1 ≤ w.heap.size) :
    Calls Tryd.prog 29 #[.string s] w fun r w' => ∃ A L c ts, r = .returned (.slice A L c) ∧ w'.ownsRow (w.heap.size + 3) 72 4 (.slice A L c) L (flat4 ts) ∧ (∀ t ∈ ts, GoodT t) ∧ L ≤ s.size ∧ (0 < s.size → 0 < L) ∧ Below w.heap.size w w' := by
  have HG := Aside0.mk hb
  clear hb
  have hmk1 : ∀ w, (Instr.makeSlice 63 (.int .i64 32768) (.int .i64 32768)).run Tryd.prog w = .ok (.slice (some ⟨w.heap.size, 0, none⟩) 32768 32768) (w.alloc (.cells (madeCells #[.int .i64 0] 32768) 3)) := fun w => make_ints 32768 (by omega) w
  have hmk2 : ∀ w, (Instr.makeSlice 63 (.int .i64 (s.size : Int)) (.int .i64 (s.size : Int))).run Tryd.prog w = .ok (.slice (some ⟨w.heap.size, 0, none⟩) s.size s.size) (w.alloc (.cells (madeCells #[.int .i64 0] s.size) 3)) := fun w => make_ints s.size (by omega) w
  have hmf : ∀ (fn : Fn) (first cap : Array Value) (w : World), (Instr.makeFunc fn first cap).run Tryd.prog w = .ok (.func fn first cap) w := fun _ _ _ _ => rfl
  have P0 := Aside0.mk (hp_new w s)
  have bx := (blk_cell P0.out.box 0).trans rfl
  go_enter Tryd.func29, Tryd.ntmps29
  go_wp2_with (fail)
  clear hmk1 hmk2
  obtain ⟨p2, hp2⟩ : ∃ p2, p2 = w.heap.size + 1 + 1 := ⟨_, rfl⟩
  rw [← hp2]
  have hp3 : p2 = w.heap.size + 2 := hp2
  have HP := Aside0.mk hp3
  clear hp2 hp3
  go_loopg [23] 32768 (fun kq v23 w' => ∃ (e : Nat), v23 = .int .i64 (e : Int) ∧ Aside0 ((e : Int) + kq = 32768) ∧ Aside0 (Hp w w' s e))
  case atStart => exact ⟨0, rfl, ⟨by omega⟩, P0⟩
  case round =>
    clear P0 bx
    obtain ⟨e, rfl, hk, S⟩ := hrel
    by_cases he : (e : Int) < 32768
    · obtain ⟨g1, hg1⟩ : ∃ g1, gk = g1 + 1 := ⟨gk - 1, by have := hk.out; omega⟩
      have HG1 := Aside0.mk hg1
      clear hg1
      obtain ⟨cs, h1, h2, h3⟩ := S.out.hd
      obtain ⟨v, e1, _⟩ := h3 e (by omega)
      have c0 := (blk_cell h1 e).trans e1
      have f0 := blk_frozen h1 e
      clear h1 h2 h3 e1
      go_wp2
      go_roundg g1
      case measure => have := HG1.out; omega
      case rel => have := HG1.out; have := hk.out; exact ⟨e + 1, by go_num, ⟨by omega⟩, ⟨S.out.put⟩⟩
    · have Z := Aside0.mk (show Tz w wr s 0 none 0 0 from (show Hp w wr s 32768 from (show e = 32768 by have := hk.out; omega) ▸ S.out).tz)
      clear S
      go_wp2_with (fail)
      clear hmf
      go_loopg [7, 8] s.size (fun kq v7 v8 w' => ∃ (i : Nat) (A : Option Addr) (L cap : Nat), v7 = .slice A L cap ∧ v8 = .int .i64 (i : Int) ∧ i + kq = s.size ∧ L ≤ i ∧ (0 < i → 0 < L) ∧ Aside0 (Tz w w' s i A L cap))
      case atStart => exact ⟨0, none, 0, 0, rfl, rfl, by omega, by omega, fun h => by omega, ⟨Z.out.up climb⟩⟩
      case round =>
        clear Z
        obtain ⟨i, A, L, cap, rfl, rfl, hk2, hL, hL0, S⟩ := hrel
        have b0 := S.out.c0
        by_cases hi : i < s.size
        · go_upto_region 13 with (fail)
          go_upto_if 39 with (fail)
          go_cut [9, 10, 11, 12, 13] (fun v9 v10 v11 v12 v13 wx => ∃ (n : Nat) (fr : Int), v9 = .int .i64 (n : Int) ∧ v10 = .int .i64 fr ∧ 0 ≤ fr ∧ fr ≤ i ∧ n ≤ 520 ∧ i + n ≤ s.size ∧ Aside0 (Tz w wx s i A L cap))
          case first => as_aux_lemma =>
            by_cases h3 : (i : Int) + 3 ≤ s.size
            · go_upto_region 15 with (fail)
              go_upto_region 16 with (first | (go_at_call 71; (with_reducible refine (hash_calls w.heap.size s i _ b0 (by omega) h3 hs).mono ?_); rintro _ w1 ⟨hv, rfl, hv0, hv1, hb1⟩; have S_ := Aside0.mk (S.out.up hb1); clear S hb1; have S := S_; clear S_; obtain ⟨hn, rfl⟩ := Int.eq_ofNat_of_zero_le hv0; obtain ⟨hz, ch, ph⟩ := S.out.hd.at_ (j := hn) (by omega); have r9 : (hn : Int) < 32768 := by omega))
              have HPH := Aside0.mk ph
              clear ph
              go_loopg [9, 10, 11, 12, 13] 33 (fun kq v9 v10 v11 v12 v13 w' => ∃ (n : Nat) (fr tr k : Int), v9 = .int .i64 (n : Int) ∧ v10 = .int .i64 fr ∧ v11 = .int .i64 tr ∧ v12 = .int .i64 k ∧ 0 ≤ fr ∧ fr ≤ i ∧ n ≤ 520 ∧ i + n ≤ s.size ∧ -1 ≤ k ∧ k < i ∧ tr + 1 ≤ kq ∧ tr ≤ 32 ∧ 0 ≤ tr ∧ Aside0 (Tz w w' s i A L cap))
              case atStart => have := HPH.out; exact ⟨0, 0, 32, hz, rfl, rfl, rfl, rfl, by omega, by omega, by omega, by omega, by omega, by omega, by omega, by omega, by omega, S⟩
              case round => as_aux_lemma =>
                clear S ch r9 b0 HPH
                obtain ⟨n, fr, tr, k, rfl, rfl, rfl, rfl, hfr0, hfr1, hn1, hn2, hk1, hki, htr, htr2, htr0, S⟩ := hrel
                have b0 := S.out.c0
                by_cases hgo : 0 ≤ k ∧ (i : Int) - k ≤ 32768 ∧ 0 < tr
                · obtain ⟨g1', g2', g3'⟩ := hgo
                  obtain ⟨kn, rfl⟩ := Int.eq_ofNat_of_zero_le g1'
                  go_upto_block 6 with (fail)
                  go_cut [13] (fun v13 wx => ∃ (m : Nat), v13 = .int .i64 (m : Int) ∧ m ≤ 520 ∧ i + m ≤ s.size ∧ Aside0 (Tz w wx s i A L cap))
                  case first => as_aux_lemma =>
                    go_wp2_with (fail)
                    go_loopg [13] 520 (fun kq v13 w' => ∃ (m : Nat), v13 = .int .i64 (m : Int) ∧ Aside0 (m + kq = 520) ∧ m ≤ 520 ∧ i + m ≤ s.size ∧ Aside0 (Tz w w' s i A L cap))
                    case atStart => exact ⟨0, rfl, ⟨by omega⟩, by omega, by omega, ⟨S.out.up climb⟩⟩
                    case round =>
                      clear S b0
                      obtain ⟨m, rfl, hm, hmb, him, S⟩ := hrel
                      have b0 := S.out.c0
                      by_cases hm1 : m < 520
                      · have d1 : decide ((m : Int) < 520) = true := decide_eq_true (by omega)
                        by_cases hm2 : (i : Int) + m < s.size
                        · have d2 : decide ((i : Int) + m < (s.size : Int)) = true := decide_eq_true hm2
                          have r1 : 0 ≤ (kn : Int) + m := by omega
                          have r2 : (kn : Int) + m < s.size := by omega
                          have r3 : 0 ≤ (i : Int) + m := by omega
                          go_upto_region 19 with (fail)
                          go_quiet (fail)
                          go_wp2
                          all_goals first
                            | (go_meet; case rel => exact ⟨m, rfl, by omega, by omega, ⟨S.out.up climb⟩⟩)
                            | skip
                          go_roundg (520 - (m + 1))
                          case measure => have := hm.out; omega
                          case rel => have := hm.out; exact ⟨m + 1, by go_num, ⟨by omega⟩, by omega, by omega, ⟨S.out.up climb⟩⟩
                        · have d2 : decide ((i : Int) + m < (s.size : Int)) = false := decide_eq_false hm2
                          go_upto_region 19 with (fail)
                          go_quiet (fail)
                          go_wp2
                          go_meet
                          case rel => exact ⟨m, rfl, by omega, by omega, ⟨S.out.up climb⟩⟩
                      · have d1 : decide ((m : Int) < 520) = false := decide_eq_false (by omega)
                        go_upto_region 19 with (fail)
                        go_quiet (fail)
                        go_wp2
                        go_meet
                        case rel => exact ⟨m, rfl, by omega, by omega, ⟨S.out.up climb⟩⟩
                  case rest => as_aux_lemma =>
                    clear S b0
                    obtain ⟨m, rfl, hm, him, S⟩ := hcut
                    obtain ⟨cz, cc, pc⟩ := S.out.ch.at_ (j := kn) (by omega)
                    have cc' : wc.cell? ⟨p2, kn, none⟩ = some (.int .i64 cz) := by rw [HP.out]; exact cc
                    have PC := Aside0.mk pc
                    clear cc pc
                    have r1 : (kn : Int) < s.size := by omega
                    by_cases hmn : (m : Int) > n
                    · go_wp2
                      go_roundg (tr.toNat)
                      case measure => omega
                      case rel => have := PC.out; exact ⟨m, kn, tr - 1, cz, rfl, rfl, rfl, rfl, by omega, by omega, by omega, by omega, by omega, by omega, by omega, by omega, by omega, ⟨S.out.up climb⟩⟩
                    · go_wp2
                      go_roundg (tr.toNat)
                      case measure => omega
                      case rel => have := PC.out; exact ⟨n, fr, tr - 1, cz, rfl, rfl, rfl, rfl, by omega, by omega, by omega, by omega, by omega, by omega, by omega, by omega, by omega, ⟨S.out.up climb⟩⟩
                · by_cases g1' : 0 ≤ k
                  · by_cases g2' : (i : Int) - k ≤ 32768
                    · have g3' : ¬ 0 < tr := fun h => hgo ⟨g1', g2', h⟩
                      clear hgo
                      go_wp2
                      go_meet
                      case rel => exact ⟨n, fr, rfl, rfl, by omega, by omega, by omega, by omega, ⟨S.out.up climb⟩⟩
                    · clear hgo
                      go_wp2
                      go_meet
                      case rel => exact ⟨n, fr, rfl, rfl, by omega, by omega, by omega, by omega, ⟨S.out.up climb⟩⟩
                  · clear hgo
                    go_wp2
                    go_meet
                    case rel => exact ⟨n, fr, rfl, rfl, by omega, by omega, by omega, by omega, ⟨S.out.up climb⟩⟩
            · go_wp2
              go_meet
              case rel => exact ⟨0, 0, rfl, rfl, by omega, by omega, by omega, by omega, ⟨S.out.up climb⟩⟩
          case rest =>
            clear S b0
            obtain ⟨n, fr, rfl, rfl, hfr0, hfr1, hn5, hin, S⟩ := hcut
            have b0 := S.out.c0
            obtain ⟨i0, hi0, hz0, hz1, hz2⟩ := info_parts tok_info
            obtain ⟨ts, ho, hgt⟩ := S.out.own
            have HO := Aside0.mk ho
            have HGT := Aside0.mk hgt
            clear ho hgt
            have hsz := S.out.bw.size
            have hsz3 : w.heap.size + 3 ≤ wc.heap.size := S.out.ch.lt
            go_upto_if 95 with (fail)
            go_cut [7, 9] (fun v7 v9 wx => ∃ (n' : Nat) (A' : Option Addr) (cap' : Nat), v7 = .slice A' (L + 1) cap' ∧ v9 = .int .i64 (n' : Int) ∧ 1 ≤ n' ∧ i + n' ≤ s.size ∧ Aside0 (Tz w wx s i A' (L + 1) cap'))
            case first =>
              by_cases hn3 : (n : Int) < 3
              · go_wp2_with (first | (at_builtin; have hzb := goodT_byte (s[i]'hi); generalize wrap64 ((s[i]'hi).toNat : Int) = z at hzb ⊢; refine wpList_append_lies _ rfl _ _ _ (by rfl) (w.heap.size + 3) 72 i0 _ 4 32 Tryd.underlying61 hi0 hz0 hz1 hz2 rfl (by omega) (.slice A L cap) L (flat4 ts) (by rfl) (HO.out.alloc _) ⟨wc.heap.size, 0, none⟩ 1 1 [.int .i64 z, .int .i64 0, .int .i64 0, .int .i64 0] (by rfl) (by rfl) (World.news_of_block (cs := #[.int .i64 z, .int .i64 0, .int .i64 0, .int .i64 0]) (t := 72) (fr := (0, 0)) (heap_alloc_new wc _)) (by simp [Value.oneCell']) (by omega) (by simp only [maxLen]; omega) (by omega) (by simp only [World.size_alloc]; omega) (wc.heap.size + 1) (by simp) ?_; intro gg cap1 w2 hown1 hgrow hat hlt1))
                go_meet
                case rel =>
                  exact ⟨1, _, cap1, rfl, rfl, by omega, by omega, ⟨S.out.stored (t := ⟨z, 0, 0, 0⟩) HO.out HGT.out climb hgrow hown1 hzb⟩⟩
              · as_aux_lemma =>
                go_wp2_with (first
                  | (go_at_call 72; (with_reducible refine (match_calls n _ (by omega) (by omega) (HG.out.below hg (bl S.out.bw))).mono ?_); rintro _ w1 ⟨y, ta, tx, rfl, hy0, hy1, hx0, hx1, hb1⟩; have HB1 := Aside0.mk hb1; clear hb1; have HO1 := Aside0.mk (own_move HO.out (fun k hk => HB1.out.block k (own_lt HO.out k hk))); have hsz1 := HB1.out.size)
                  | (at_builtin; refine wpList_append_lies _ rfl _ _ _ (by rfl) (w.heap.size + 3) 72 i0 _ 4 32 Tryd.underlying61 hi0 hz0 hz1 hz2 rfl (by omega) (.slice A L cap) L (flat4 ts) (by rfl) (HO1.out.alloc _) ⟨w1.heap.size, 0, none⟩ 1 1 [.int .i64 y, .int .i64 ta, .int .i64 tx, .int .i64 ((i : Int) - fr - 1)] (by rfl) (by rfl) (World.news_of_block (cs := #[.int .i64 y, .int .i64 ta, .int .i64 tx, .int .i64 ((i : Int) - fr - 1)]) (t := 72) (fr := (0, 0)) (heap_alloc_new w1 _)) (by simp [Value.oneCell']) (by omega) (by simp only [maxLen]; omega) (by omega) (by simp only [World.size_alloc]; omega) (w1.heap.size + 1) (by simp) ?_; intro gg cap1 w2 hown1 hgrow hat hlt1))
                go_meet
                case rel => exact ⟨n, _, cap1, rfl, rfl, by omega, by omega, ⟨(S.out.up HB1.out).stored (t := ⟨y, ta, tx, (i : Int) - fr - 1⟩) HO1.out HGT.out climb hgrow hown1 (goodT_mk (by omega) hy1 hx0 hx1)⟩⟩
            case rest => as_aux_lemma =>
              clear S b0 HO HGT hsz hsz3
              obtain ⟨n', A', cap', rfl, rfl, hn1, hin', S⟩ := hcut
              go_wp2_with (fail)
              go_loopg [8, 122] n' (fun kq v8 v122 w' => ∃ (e : Nat), v8 = .int .i64 ((i + e : Nat) : Int) ∧ v122 = .int .i64 (e : Int) ∧ e + kq = n' ∧ Aside0 (Tz w w' s (i + e) A' (L + 1) cap'))
              case atStart => exact ⟨0, rfl, rfl, by omega, ⟨S.out.up climb⟩⟩
              case round =>
                clear S
                obtain ⟨e, rfl, rfl, he, S⟩ := hrel
                have b0 := S.out.c0
                by_cases hen : e < n'
                · obtain ⟨j, hj⟩ : ∃ j, j = i + e := ⟨_, rfl⟩
                  rw [← hj] at S ⊢
                  have hjs : j < s.size := by omega
                  have HJ := Aside0.mk hj
                  clear hj
                  by_cases h3 : (j : Int) + 3 ≤ s.size
                  · have M0 : Aside0 (j = j + 0) := ⟨rfl⟩
                    go_upto_region 32 with (first
                      | (go_at_call 71; clear M0; (with_reducible refine (hash_calls w.heap.size s j _ b0 (by omega) h3 hs).mono ?_); rintro _ w1 ⟨hv, rfl, hv0, hv1, hb1⟩; have S_ := Aside0.mk (S.out.up hb1); clear S hb1 b0; have S := S_; clear S_; have b0 := S.out.c0; obtain ⟨hk1, rfl⟩ := Int.eq_ofNat_of_zero_le hv0; have r8 : (hk1 : Int) < 32768 := by omega))
                    refine (hash_calls w.heap.size s j _ b0 (by omega) h3 hs).mono ?_
                    rintro _ w2 ⟨hv2, rfl, hv2', hv3, hb1⟩
                    have S_ := Aside0.mk (S.out.up hb1)
                    clear S hb1 b0
                    have S := S_
                    clear S_
                    obtain ⟨hk2, rfl⟩ := Int.eq_ofNat_of_zero_le hv2'
                    obtain ⟨hz, hz1, cz, ph, ch, cc, f1, f2, ch3⟩ := S.out.two hjs hk1 hk2 hv1 hv3 p2 HP.out
                    have PH := Aside0.mk ph
                    clear ph
                    have r9 : (hk2 : Int) < 32768 := by omega
                    have r7 : (j : Int) < s.size := by omega
                    go_upto_region 32 with (fail)
                    have Z1 := S.out.put (v := hz) (q := 0) PH.out (j := hk1)
                    rw [← HP.out] at Z1
                    have ZZ := Aside0.mk Z1
                    clear Z1
                    go_wp2
                    go_roundg (n' - (e + 1))
                    case measure => omega
                    case rel => have := HJ.out; exact ⟨e + 1, by congr 1; omega, by go_num, by omega, ⟨(show j + 1 = i + (e + 1) by omega) ▸ (ZZ.out.up climb)⟩⟩
                  · go_wp2
                    go_roundg (n' - (e + 1))
                    case measure => omega
                    case rel => have := HJ.out; exact ⟨e + 1, by congr 1; omega, by go_num, by omega, ⟨(show j + 1 = i + (e + 1) by omega) ▸ (S.out.next.up climb)⟩⟩
                · go_wp2
                  go_roundg (s.size - (i + n'))
                  case measure => omega
                  case rel => exact ⟨i + n', A', L + 1, cap', rfl, by have : e = n' := by omega
                                                                      rw [this], by omega, by omega, fun _ => by omega, ⟨(show i + e = i + n' by omega) ▸ S.out⟩⟩
        · go_wp2
          go_ret
          obtain ⟨ts, ho, hgt⟩ := S.out.own
          exact ⟨A, L, cap, ts, rfl, own_move ho (fun k hk => rfl), hgt, by omega, fun h => hL0 (by omega), (S.out.up climb).bw⟩
end Go.Proofs.YtefhcgnamfnkbaaDoor.Pr
