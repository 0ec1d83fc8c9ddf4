/- squash.tokens, exactly: what it computes, and its words. -/
import Derived.Test.YtefhcgnamfnkbaaDoorSbu
import Derived.Test.YtefhcgnamfnkbaaDoorSbj
namespace Go.Proofs.YtefhcgnamfnkbaaDoor.Pr
open Go.RowKit Go.Proofs.YtefhcgnamfnkbaaDoorW.PrintWords Go.Proofs.YtefhcgnamfnkbaaDoorW.PrintLast Go.Proofs.YtefhcgnamfnkbaaDoorW.PrintMore
open Go.Proofs.YtefhcgnamfnkbaaDoor.Sb
set_option linter.unusedVariables false
set_option linter.unusedSimpArgs false
/-- A byte of a string as the program reads it. -/
def byF (s : ByteArray) (i : Nat) : Int := wrap64 ((s.data.getD i 0).toNat : Int)
theorem byF_at (s : ByteArray) (i : Nat) (h : i < s.size) : wrap64 ((s[i]'h).toNat : Int) = byF s i := by
  unfold byF
  have h' : i < s.data.size := h
  rw [← Array.getElem_eq_getD (h := h')]; rfl
/-- The place of the three bytes at i in the table of heads. -/
def hashF (s : ByteArray) (i : Nat) : Nat := (bits .and .i64 (bits .xor .i64 (bits .xor .i64 (wrap64 (byF s i * 1024)) (wrap64 (byF s (i + 1) * 32))) (byF s (i + 2))) 32767).toNat
theorem hashF_lt (s : ByteArray) (i : Nat) : hashF s i < 32768 := by
  have h := bits_and_32767 (bits .xor .i64 (bits .xor .i64 (wrap64 (byF s i * 1024)) (wrap64 (byF s (i + 1) * 32))) (byF s (i + 2)))
  unfold hashF
  omega
/-- The heads before place i is entered. -/
def headF (s : ByteArray) : Nat → Nat → Int
  | 0, _ => -1
  | i + 1, h => if i + 3 ≤ s.size ∧ hashF s i = h then (i : Int) else headF s i h
def chainF (s : ByteArray) (j : Nat) : Int := if j + 3 ≤ s.size then headF s j (hashF s j) else 0
theorem headF_b (s : ByteArray) : ∀ (i h : Nat), -1 ≤ headF s i h ∧ headF s i h < i
  | 0, _ => by simp [headF]
  | i + 1, h => by
    have := headF_b s i h
    unfold headF
    split <;> omega
theorem chainF_b (s : ByteArray) (j : Nat) : -1 ≤ chainF s j ∧ (chainF s j < j ∨ chainF s j = 0) := by
  have := headF_b s j (hashF s j)
  unfold chainF
  split
  · omega
  · omega
/-- How far the strings at k and at i agree, m bytes known, at most q more. -/
def agree (s : ByteArray) (k i : Nat) : Nat → Nat → Nat
  | m, 0 => m
  | m, q + 1 => if i + m < s.size ∧ byF s (k + m) = byF s (i + m) then agree s k i (m + 1) q else m
/-- The search along the chain from k on, with t tries left; n and fr are the best so far. -/
def search (s : ByteArray) (i : Nat) : Nat → Int → Nat → Int → Nat × Int
  | 0, _, n, fr => (n, fr)
  | t + 1, k, n, fr => if 0 ≤ k ∧ (i : Int) - k ≤ 32768 then (if agree s k.toNat i 0 520 > n then search s i t (chainF s k.toNat) (agree s k.toNat i 0 520) k else search s i t (chainF s k.toNat) n fr) else (n, fr)
/-- The longest match at i: its length, and from where. -/
def bestF (s : ByteArray) (i : Nat) : Nat × Int := if i + 3 ≤ s.size then search s i 32 (headF s i (hashF s i)) 0 0 else (0, 0)
def tokAt (s : ByteArray) (i : Nat) : Tk := if (bestF s i).1 < 3 then ⟨byF s i, 0, 0, 0⟩ else ⟨((matchF (bestF s i).1).1 : Int), ((matchF (bestF s i).1).2.1 : Int), ((matchF (bestF s i).1).2.2 : Int), (i : Int) - (bestF s i).2 - 1⟩
def stepAt (s : ByteArray) (i : Nat) : Nat := if (bestF s i).1 < 3 then 1 else (bestF s i).1
theorem stepAt_pos (s : ByteArray) (i : Nat) : 0 < stepAt s i := by
  unfold stepAt
  split <;> omega
/-- The tokens from i on. -/
def tokF (s : ByteArray) (i : Nat) : List Tk := if h : i < s.size then tokAt s i :: tokF s (i + stepAt s i) else []
termination_by s.size - i
decreasing_by have := stepAt_pos s i; omega
theorem tokF_yes {s : ByteArray} {i : Nat} (h : i < s.size) : tokF s i = tokAt s i :: tokF s (i + stepAt s i) := by rw [tokF, dif_pos h]
theorem tokF_no {s : ByteArray} {i : Nat} (h : ¬ i < s.size) : tokF s i = [] := by rw [tokF, dif_neg h]
theorem agree_le (s : ByteArray) (k i : Nat) : ∀ (q m : Nat), i + m ≤ s.size → agree s k i m q ≤ m + q ∧ i + agree s k i m q ≤ s.size
  | 0, m, h => ⟨Nat.le_refl _, h⟩
  | q + 1, m, h => by
    unfold agree
    split
    · rename_i h1
      have := agree_le s k i q (m + 1) (by omega)
      omega
    · omega
set_option maxHeartbeats 4000000 in
set_option maxRecDepth 100000 in
theorem hash_x (p : Nat) (s : ByteArray) (i : Nat) (w : World) (c0 : w.cell? ⟨p, 0, none⟩ = some (.string s)) (h1 : i + 3 ≤ s.size) (hs : s.size ≤ 1000000) :
    Calls Tryd.prog 71 #[.int .i64 (i : Int), .pointer (some ⟨p, 0, none⟩)] w fun r w' => r = .returned (.int .i64 (hashF s i : Int)) ∧ Below w.heap.size w w' := by
  have q0 : (0 : Int) ≤ (i : Int) := by omega
  have q1 : (i : Int) < (s.size : Int) := by omega
  have q2 : (i : Int) + 1 < (s.size : Int) := by omega
  have q3 : (i : Int) + 2 < (s.size : Int) := by omega
  have q4 : (0 : Int) ≤ (i : Int) + 1 := by omega
  have q5 : (0 : Int) ≤ (i : Int) + 2 := by omega
  have q6 : ((i : Int) + 1).toNat = i + 1 := by omega
  have q7 : ((i : Int) + 2).toNat = i + 2 := by omega
  have hV : bits .and .i64 (bits .xor .i64 (bits .xor .i64 (wrap64 (wrap64 ((s[i]'(by omega)).toNat : Int) * 1024)) (wrap64 (wrap64 ((s[i + 1]'(by omega)).toNat : Int) * 32))) (wrap64 ((s[i + 2]'(by omega)).toNat : Int))) 32767 = (hashF s i : Int) := by
    rw [byF_at, byF_at, byF_at]
    unfold hashF
    exact (Int.toNat_of_nonneg (bits_and_32767 _).1).symm
  have HV := Aside0.mk hV
  clear hV
  go_enter Tryd.func71, Tryd.ntmps71
  go_wp2
  repeat (go_quiet (fail); try go_wp2)
  rw [HV.out]
  go_ret
  exact ⟨rfl, climb⟩
/-- Where tokens stands: the places before i are entered; the tokens ts written. -/
structure Ty (w0 w : World) (s : ByteArray) (i : Nat) (A : Option Addr) (L cap : Nat) (ts : List Tk) : Prop where
  box : w.heap[w0.heap.size]? = some (.cells #[.string s] 9 (0, 0))
  hd : Ix w (w0.heap.size + 1) 32768 (headF s i)
  ch : Ix w (w0.heap.size + 2) s.size (fun j => if j < i then chainF s j else 0)
  own : w.ownsRow (w0.heap.size + 3) 72 4 (.slice A L cap) L (flat4 ts)
  bw : Below w0.heap.size w0 w
variable {w w' w0 : World} {s : ByteArray} {i : Nat} {A : Option Addr} {L cap : Nat} {ts : List Tk}
theorem Ty.up (h : Ty w0 w s i A L cap ts) (k : Below w.heap.size w w') : Ty w0 w' s i A L cap ts :=
  ⟨blk_below h.box k, h.hd.up k, h.ch.up k, own_move h.own (fun i hi => k.block i (own_lt h.own i hi)), below_step h.bw k⟩
theorem Ty.c0 (h : Ty w0 w s i A L cap ts) : w.cell? ⟨w0.heap.size, 0, none⟩ = some (.string s) := (blk_cell h.box 0).trans rfl
/-- One place is entered. -/
theorem Ty.put (h : Ty w0 w s i A L cap ts) (hi : i + 3 ≤ s.size) : Ty w0 ((w.setCell ⟨w0.heap.size + 2, i, none⟩ (.int .i64 (headF s i (hashF s i)))).setCell ⟨w0.heap.size + 1, hashF s i, none⟩ (.int .i64 (i : Int))) s (i + 1) A L cap ts := by
  have ho := h.own
  refine ⟨blk_far (blk_far h.box (by show w0.heap.size ≠ w0.heap.size + 2; omega) _) (by show w0.heap.size ≠ w0.heap.size + 1; omega) _, ?_, ?_, own_move ho (fun k hk => ?_), below_set (below_set h.bw (by omega)) (by omega)⟩
  · refine (h.hd.far (a := ⟨w0.heap.size + 2, i, none⟩) (by show w0.heap.size + 1 ≠ w0.heap.size + 2; omega) _).put (hashF s i) (fun j _ => ?_)
    by_cases hj : j = hashF s i
    · subst hj
      rw [if_pos rfl]
      show (if i + 3 ≤ s.size ∧ hashF s i = hashF s i then (i : Int) else headF s i (hashF s i)) = _
      rw [if_pos ⟨hi, rfl⟩]
    · rw [if_neg hj]
      show (if i + 3 ≤ s.size ∧ hashF s i = j then (i : Int) else headF s i j) = _
      rw [if_neg (fun e => hj e.2.symm)]
  · refine (h.ch.put i (F' := fun j => if j < i + 1 then chainF s j else 0) (fun j _ => ?_)).far (a := ⟨w0.heap.size + 1, hashF s i, none⟩) (by show w0.heap.size + 2 ≠ w0.heap.size + 1; omega) _
    by_cases hj : j = i
    · subst hj
      rw [if_pos (by omega), if_pos rfl]
      unfold chainF
      rw [if_pos hi]
    · rw [if_neg hj]
      by_cases h2 : j < i
      · rw [if_pos (by omega), if_pos h2]
      · rw [if_neg (by omega), if_neg h2]
  · have hB := own_base ho k hk
    rw [Below.heap_setCell _ ⟨w0.heap.size + 1, hashF s i, none⟩ _ k (by show k ≠ w0.heap.size + 1; omega), Below.heap_setCell _ ⟨w0.heap.size + 2, i, none⟩ _ k (by show k ≠ w0.heap.size + 2; omega)]
theorem Ty.next (h : Ty w0 w s i A L cap ts) (hi : ¬ i + 3 ≤ s.size) : Ty w0 w s (i + 1) A L cap ts :=
  ⟨h.box, h.hd.cong (fun j _ => by
    show (if i + 3 ≤ s.size ∧ hashF s i = j then (i : Int) else headF s i j) = _
    rw [if_neg (fun e => hi e.1)]), h.ch.cong (fun j _ => by
    by_cases hj : j = i
    · subst hj
      rw [if_pos (by omega), if_neg (by omega)]
      unfold chainF
      rw [if_neg hi]
    · by_cases h2 : j < i
      · rw [if_pos (by omega), if_pos h2]
      · rw [if_neg (by omega), if_neg h2]), h.own, h.bw⟩
theorem Ty.stored (h : Ty w0 w s i A L cap ts) {w2 w1 : World} {gg cap1 : Nat} {t : Tk} (hb : Below w.heap.size w w2) (hgr : w2.grownBy w1 (Value.slice A L cap).ownBlock)
    (hw : w1.ownsRow (w0.heap.size + 3) 72 4 (.slice (some ⟨gg, 0, none⟩) (L + 1) cap1) (L + 1) (flat4 ts ++ [.int .i64 t.y, .int .i64 t.a, .int .i64 t.x, .int .i64 t.b])) : Ty w0 w1 s i (some ⟨gg, 0, none⟩) (L + 1) cap1 (ts ++ [t]) := by
  have hn : ∀ i, (Value.slice A L cap).ownBlock = some i → w0.heap.size + 3 ≤ i := own_base h.own
  have hkeep : ∀ k, k < w.heap.size → k < w0.heap.size + 3 → w1.heap[k]? = w.heap[k]? := fun k h1 h2 => by
    rw [hgr.block k (Nat.lt_of_lt_of_le h1 hb.size) (fun e => by have := hn k e.symm; omega), hb.block k h1]
  have hsz := h.bw.size
  obtain ⟨cs1, d1, d2⟩ := h.hd
  obtain ⟨cs2, d3, d4⟩ := h.ch
  refine ⟨(hkeep _ (blk_lt h.box) (by omega)).trans h.box, ⟨cs1, (hkeep _ (blk_lt d1) (by omega)).trans d1, d2⟩, ⟨cs2, (hkeep _ (blk_lt d3) (by omega)).trans d3, d4⟩, by rw [← flat4_app]; exact hw, ⟨hgr.os.trans (hb.os.trans h.bw.os), hgr.tape.trans (hb.tape.trans h.bw.tape), hgr.output.trans (hb.output.trans h.bw.output), Nat.le_trans hsz (Nat.le_trans hb.size hgr.size), fun k hk => ?_⟩⟩
  rw [hkeep k (by omega) (by omega), h.bw.block k hk]
/-- The first e heads are -1. -/
structure Hy (w0 w : World) (s : ByteArray) (e : Nat) : Prop where
  box : w.heap[w0.heap.size]? = some (.cells #[.string s] 9 (0, 0))
  hd : Ix w (w0.heap.size + 1) 32768 (fun j => if j < e then -1 else 0)
  ch : Ix w (w0.heap.size + 2) s.size (fun _ => 0)
  bw : Below w0.heap.size w0 w
theorem Hy.put {e : Nat} (h : Hy w0 w s e) : Hy w0 (w.setCell ⟨w0.heap.size + 1, e, none⟩ (.int .i64 (-1))) s (e + 1) :=
  ⟨blk_far h.box (by show w0.heap.size ≠ w0.heap.size + 1; omega) _, h.hd.put e (fun j _ => by
    by_cases hj : j = e
    · subst hj; rw [if_pos rfl]; show (if j < j + 1 then (-1 : Int) else 0) = -1; rw [if_pos (by omega)]
    · rw [if_neg hj]
      by_cases h2 : j < e
      · show (if j < e + 1 then (-1 : Int) else 0) = (if j < e then -1 else 0)
        rw [if_pos (by omega), if_pos h2]
      · show (if j < e + 1 then (-1 : Int) else 0) = (if j < e then -1 else 0)
        rw [if_neg (by omega), if_neg h2]), h.ch.far (by show w0.heap.size + 2 ≠ w0.heap.size + 1; omega) _, below_set h.bw (by omega)⟩
theorem Hy.ty (h : Hy w0 w s 32768) : Ty w0 w s 0 none 0 0 [] :=
  ⟨h.box, h.hd.cong (fun j hj => by show (-1 : Int) = (if j < 32768 then -1 else 0); rw [if_pos hj]), h.ch.cong (fun j _ => by rw [if_neg (by omega)]), World.ownsRow_nil _ _ _ _, h.bw⟩
theorem Hy.up {e : Nat} (h : Hy w0 w s e) (k : Below w.heap.size w w') : Hy w0 w' s e := ⟨blk_below h.box k, h.hd.up k, h.ch.up k, below_step h.bw k⟩
theorem hy_new (w : World) (s : ByteArray) : Hy w (((w.alloc (.cells #[.string s] 9)).alloc (.cells (madeCells #[.int .i64 0] 32768) 3)).alloc (.cells (madeCells #[.int .i64 0] s.size) 3)) s 0 := by
  obtain ⟨cs, h1, h2, h3⟩ := Ix.made (w.alloc (.cells #[.string s] 9)) 32768
  have h4 := Ix.made ((w.alloc (.cells #[.string s] 9)).alloc (.cells (madeCells #[.int .i64 0] 32768) 3)) s.size
  simp only [World.size_alloc] at h1 h4
  exact ⟨blk_alloc (blk_alloc (blk_new w _) _) _, ⟨cs, blk_alloc h1 _, h2, fun j hj => by show cs[j]? = some (Value.int .i64 (if j < 0 then -1 else 0)); rw [if_neg (by omega)]; exact h3 j hj⟩, h4, climb⟩
theorem Ty.two {j : Nat} (S : Ty w0 w s j A L cap ts) (hj : j < s.size) (p2 : Nat) (hp : p2 = w0.heap.size + 2) :
    ∃ hz1 cz : Int, w.cell? ⟨w0.heap.size + 1, hashF s j, none⟩ = some (.int .i64 (headF s j (hashF s j))) ∧ w.cell? ⟨p2, j, none⟩ = some (.int .i64 cz) ∧ w.frozen? ⟨p2, j, none⟩ = false ∧ w.frozen? ⟨w0.heap.size + 1, hashF s j, none⟩ = false ∧ (w.setCell ⟨p2, j, none⟩ (.int .i64 (headF s j (hashF s j)))).cell? ⟨w0.heap.size + 1, hashF s j, none⟩ = some (.int .i64 hz1) := by
  subst hp
  have hl := hashF_lt s j
  have ch := S.hd.at_ hl
  have cc := S.ch.at_ hj
  exact ⟨_, _, ch, cc, S.ch.free j, S.hd.free _, (cell_far (p := ⟨w0.heap.size + 2, j, none⟩) (a := ⟨w0.heap.size + 1, hashF s j, none⟩) (by show w0.heap.size + 1 ≠ w0.heap.size + 2; omega) _).trans ch⟩
theorem byF_eq (s : ByteArray) (a b : Nat) (ha : a < s.size) (hb : b < s.size) : (((s[a]'ha).toNat : Int) == ((s[b]'hb).toNat : Int)) = decide (byF s a = byF s b) := by
  have h1 := UInt8.toNat_lt (s[a]'ha)
  have h2 := UInt8.toNat_lt (s[b]'hb)
  have e1 : byF s a = ((s[a]'ha).toNat : Int) := by rw [← byF_at s a ha]; unfold wrap64; omega
  have e2 : byF s b = ((s[b]'hb).toNat : Int) := by rw [← byF_at s b hb]; unfold wrap64; omega
  rw [e1, e2]
  by_cases h : ((s[a]'ha).toNat : Int) = ((s[b]'hb).toNat : Int)
  · rw [decide_eq_true h]; exact beq_iff_eq.2 h
  · rw [decide_eq_false h]; exact beq_eq_false_iff_ne.2 h
theorem agree_yes {s : ByteArray} {k i m q : Nat} (h : i + m < s.size) (e : byF s (k + m) = byF s (i + m)) : agree s k i m (q + 1) = agree s k i (m + 1) q := by
  show (if i + m < s.size ∧ byF s (k + m) = byF s (i + m) then agree s k i (m + 1) q else m) = _
  rw [if_pos ⟨h, e⟩]
theorem agree_no {s : ByteArray} {k i m q : Nat} (h : ¬ (i + m < s.size ∧ byF s (k + m) = byF s (i + m))) : agree s k i m q = m := by
  cases q with
  | zero => rfl
  | succ q =>
    show (if i + m < s.size ∧ byF s (k + m) = byF s (i + m) then agree s k i (m + 1) q else m) = _
    rw [if_neg h]
theorem search_more {s : ByteArray} {i t k n : Nat} {fr : Int} (h : (i : Int) - k ≤ 32768) (hn : n < agree s k i 0 520) : search s i (t + 1) (k : Int) n fr = search s i t (chainF s k) (agree s k i 0 520) (k : Int) := by
  show (if 0 ≤ (k : Int) ∧ (i : Int) - k ≤ 32768 then (if agree s (k : Int).toNat i 0 520 > n then search s i t (chainF s (k : Int).toNat) (agree s (k : Int).toNat i 0 520) k else search s i t (chainF s (k : Int).toNat) n fr) else (n, fr)) = _
  rw [if_pos ⟨by omega, h⟩, Int.toNat_natCast, if_pos hn]
theorem search_same {s : ByteArray} {i t k n : Nat} {fr : Int} (h : (i : Int) - k ≤ 32768) (hn : ¬ n < agree s k i 0 520) : search s i (t + 1) (k : Int) n fr = search s i t (chainF s k) n fr := by
  show (if 0 ≤ (k : Int) ∧ (i : Int) - k ≤ 32768 then (if agree s (k : Int).toNat i 0 520 > n then search s i t (chainF s (k : Int).toNat) (agree s (k : Int).toNat i 0 520) k else search s i t (chainF s (k : Int).toNat) n fr) else (n, fr)) = _
  rw [if_pos ⟨by omega, h⟩, Int.toNat_natCast, if_neg hn]
theorem search_end {s : ByteArray} {i t n : Nat} {k fr : Int} (h : ¬ (0 ≤ k ∧ (i : Int) - k ≤ 32768 ∧ 0 < (t : Int))) : search s i t k n fr = (n, fr) := by
  cases t with
  | zero => rfl
  | succ t =>
    show (if 0 ≤ k ∧ (i : Int) - k ≤ 32768 then _ else (n, fr)) = _
    rw [if_neg (fun e => h ⟨e.1, e.2, by omega⟩)]
theorem tok_small {s : ByteArray} {i n : Nat} {fr : Int} (h : (n, fr) = bestF s i) (hn : (n : Int) < 3) : tokAt s i = ⟨byF s i, 0, 0, 0⟩ ∧ stepAt s i = 1 := by
  unfold tokAt stepAt
  rw [← h, if_pos (show n < 3 by omega), if_pos (show n < 3 by omega)]
  exact ⟨rfl, rfl⟩
theorem tok_match {s : ByteArray} {i n : Nat} {fr : Int} (h : (n, fr) = bestF s i) (hn : ¬ (n : Int) < 3) : tokAt s i = ⟨((matchF n).1 : Int), ((matchF n).2.1 : Int), ((matchF n).2.2 : Int), (i : Int) - fr - 1⟩ ∧ stepAt s i = n := by
  unfold tokAt stepAt
  rw [← h, if_neg (show ¬ n < 3 by omega), if_neg (show ¬ n < 3 by omega)]
  exact ⟨rfl, rfl⟩
end Go.Proofs.YtefhcgnamfnkbaaDoor.Pr
