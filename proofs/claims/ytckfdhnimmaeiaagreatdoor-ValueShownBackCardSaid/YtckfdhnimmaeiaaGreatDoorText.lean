/- nat.text: the digits of a number from the greatest down, written into a strings.Builder in a range over slices.Backward. -/
import Derived.Test.YtckfdhnimmaeiaaGreatDoorPrx2
import Derived.Test.YtckfdhnimmaeiaaGreatDoorGiven
import Derived.Test.YtckfdhnimmaeiaaGreatDoorBuild
import Derived.RangeFuncNested
import Derived.RangeFuncBound
import Derived.RangeFuncCalls
import Derived.RangeFuncLeaves
import Derived.RangeFuncBox
import Derived.Shelf.Abstract
import Derived.Shelf.RegionOpen
import Derived.WalkKit
import Derived.OwnWalkIn
import Derived.TacticsInMore
import Derived.LoopNIn
import Derived.LoopIn
namespace Go.Proofs.YtckfdhnimmaeiaaGreatDoor.Pr
open Go.RowKit Go.Shelf Go.Proofs.YtckfdhnimmaeiaaGreatDoorW.PrintWords Go.Proofs.YtckfdhnimmaeiaaGreatDoorW.PrintLast Go.Proofs.YtckfdhnimmaeiaaGreatDoorW.PrintMore
attribute [local go_sem] Oper.semAt_some
/-- A place and the digit that stands there. -/
abbrev Pd := { x : Nat × Int // 0 ≤ x.2 ∧ x.2 < 1000000000 }
/-- What has come when k rounds are over. -/
def upto (f : Nat → Pd) (k : Nat) : List Pd := (List.range k).map f
theorem upto_succ (f : Nat → Pd) (k : Nat) : upto f (k + 1) = upto f k ++ [f k] := by simp [upto, List.range_succ]
theorem upto_length (f : Nat → Pd) (k : Nat) : (upto f k).length = k := by simp [upto]
theorem dig_in {zs : List Int} (hz : ∀ d ∈ zs, 0 ≤ d ∧ d < 1000000000) (j : Nat) : 0 ≤ zs[j]?.getD 0 ∧ zs[j]?.getD 0 < 1000000000 := by
  cases h : zs[j]? with
  | none => simp
  | some d => exact hz d (List.mem_of_getElem? h)
/-- The j-th that comes: from the last place down. -/
def downTo (zs : List Int) (hz : ∀ d ∈ zs, 0 ≤ d ∧ d < 1000000000) (j : Nat) : Pd := ⟨(zs.length - 1 - j, zs[zs.length - 1 - j]?.getD 0), dig_in hz _⟩
set_option maxRecDepth 100000 in
set_option maxHeartbeats 2000000 in
/-- slices.Backward's closure, for every loop body that keeps what lay below n₀ and the box. -/
theorem back1_in (F : Fence) (n : Nat) (h7 : F.fn 126) (hro : F.round = none) (hn : 1 ≤ n) (l Bs cap : Nat) (ad : Addr) (zs : List Int) (hz : ∀ d ∈ zs, 0 ≤ d ∧ d < 1000000000) (hlen : zs.length ≤ 1000000) (w0 : World) (J Jx : List Pd → World → Prop)
    (hY : ∀ pre x W, J pre W → pre.length < zs.length → YieldAt F (n - 1) Tryz.prog l #[.int .i64 (x.1.1 : Int), .int .u32 x.1.2] W fun e W' =>
      (e = .returned (.bool true) ∧ J (pre ++ [x]) W' ∧ (Below w0.heap.size W W' ∧ (Boxed W Bs 62 (.slice (some ad) zs.length cap) → Boxed W' Bs 62 (.slice (some ad) zs.length cap)))) ∨ (e = .returned (.bool false) ∧ Jx (pre ++ [x]) W'))
    (W : World) (hW : Below w0.heap.size w0 W) (hBs : Boxed W Bs 62 (.slice (some ad) zs.length cap)) (hc : ∀ j, j < zs.length → w0.cell? (ad.add j) = some (.int .u32 (zs[j]?.getD 0))) (h0 : J [] W) :
    CallsIn F n Tryz.prog 126 #[.func (.yield l) #[] #[], .pointer (some ⟨Bs, 0, none⟩)] W fun e W' => (∃ v, e = .returned v) ∧
      ((∃ ys, ys = upto (downTo zs hz) zs.length ∧ J ys W') ∨ (∃ pre, (∃ k, k ≤ zs.length ∧ pre = upto (downTo zs hz) k) ∧ Jx pre W')) := by
  refine callsIn_of_wp Tryz.func126 rfl h7 ?_ hro
  simp only [Tryz.ntmps126, List.size_toArray, List.length_cons, List.length_nil, Nat.reduceAdd, Nat.reduceSub, Array.replicate_succ, Array.replicate_zero, List.push_toArray, List.append_toArray, List.nil_append, List.cons_append]
  have hb1 := hBs.cell
  have hwr : wrap64 ((zs.length : Int) - 1) = (zs.length : Int) - 1 := by unfold wrap64; omega
  gi_wp2
  gi_loopw [3] (fun i wr => ∃ k : Nat, k ≤ zs.length ∧ i = .int .i64 ((zs.length : Int) - 1 - (k : Int)) ∧ J (upto (downTo zs hz) k) wr ∧ Below w0.heap.size w0 wr ∧ Boxed wr Bs 62 (.slice (some ad) zs.length cap))
    (fun i _ => (intOf i + 1).toNat)
  case atStart => exact ⟨0, Nat.zero_le _, by simp, h0, hW, hBs⟩
  case round =>
    obtain ⟨k, hk, rfl, hJs, hnx, hbx⟩ := hrel
    have hb2 := hbx.cell
    by_cases hlt : k < zs.length
    · have hp : (0 : Int) ≤ (zs.length : Int) - 1 - (k : Int) := by omega
      obtain ⟨m, hm⟩ : ∃ m : Nat, m = zs.length - 1 - k := ⟨_, rfl⟩
      have hmi : (zs.length : Int) - 1 - (k : Int) = (m : Int) := by omega
      have hml : m < zs.length := by omega
      have hcx : wr.cell? (ad.add m) = some (.int .u32 (zs[m]?.getD 0)) := (hnx.cell (World.block_lt_of_cell? w0 _ (hc m hml))).trans (hc m hml)
      obtain ⟨X, hX⟩ : ∃ X : Pd, downTo zs hz k = X := ⟨_, rfl⟩
      have hX1 : X.1.1 = m := by rw [← hX, hm]; rfl
      have hX2 : X.1.2 = zs[m]?.getD 0 := by rw [← hX, hm]; rfl
      obtain ⟨fn, tmps, assign, body, hy, hR⟩ := hY _ X wr hJs (by rw [upto_length]; exact hlt)
      obtain ⟨z, hzz⟩ : ∃ z : Int, zs[m]?.getD 0 = z := ⟨_, rfl⟩
      rw [hX1, hX2, hzz] at hy
      rw [hzz] at hcx
      rw [hmi]
      clear hzz hX2
      have hmiA := Aside0.mk hmi
      clear hm hmi
      have hm0 : (0 : Int) ≤ (m : Int) := Int.natCast_nonneg m
      have hwm : wrap64 ((m : Int) - 1) = (m : Int) - 1 := by unfold wrap64; omega
      gi_wp2
      refine hR.mono ?_
      rintro e W3 (⟨rfl, hJ3, hk3, hkb3⟩ | ⟨rfl, hJx3⟩)
      · gi_wp2
        go_roundw
        case rel => exact ⟨k + 1, by omega, by have := hmiA.out; first | (congr 1; omega) | (simp; omega), by rw [upto_succ, hX]; exact hJ3, hnx.trans hk3, hkb3 hbx⟩
        case measure => have := hmiA.out; simp [intOf] <;> omega
      · gi_wp2
        refine bodyPost_ret (results_none rfl _ _ _) rfl ?_
        exact ⟨⟨_, rfl⟩, .inr ⟨_, ⟨k + 1, by omega, by rw [upto_succ, hX]⟩, hJx3⟩⟩
    · obtain rfl : k = zs.length := by omega
      have hneg : ¬ (0 : Int) ≤ (zs.length : Int) - 1 - (zs.length : Int) := by omega
      have hneg2 : (zs.length : Int) - 1 - (zs.length : Int) = -1 := by omega
      rw [hneg2]
      gi_wp2
      go_end0
      first | exact ⟨⟨_, rfl⟩, .inl ⟨_, rfl, hJs⟩⟩ | exact ⟨⟨_, rfl⟩, .inl hJs⟩ | exact .inl hJs
set_option maxHeartbeats 1000000 in
/-- slices.Backward: the slice is boxed; the function value bears the box. -/
theorem back_in (F : Fence) (n : Nat) (h5 : F.fn 95) (hro : F.round = none) (a : Option Addr) (len cap : Nat) (w : World) :
    CallsIn F n Tryz.prog 95 #[.slice a len cap] w fun e w' => e = .returned (.func (.func 126) #[] #[.pointer (some ⟨w.heap.size, 0, none⟩)]) ∧ w' = w.alloc (.cells #[.slice a len cap] 62) := by
  refine callsIn_of_wp Tryz.func95 rfl h5 ?_ hro
  simp only [Tryz.ntmps95, List.size_toArray, List.length_cons, List.length_nil, Nat.reduceAdd, Nat.reduceSub, Array.replicate_succ, Array.replicate_zero, List.push_toArray, List.append_toArray, List.nil_append, List.cons_append]
  gi_wp2
  go_ret
  exact ⟨rfl, rfl⟩
/-- What a round that goes on keeps. -/
def Kp (n₀ Bs : Nat) (sv : Value) (W W' : World) : Prop := Below n₀ W W' ∧ (Boxed W Bs 62 sv → Boxed W' Bs 62 sv)
theorem kp_t {n₀ Bs : Nat} {sv : Value} {A B C : World} (h : Kp n₀ Bs sv A B) (k : Kp n₀ Bs sv B C) : Kp n₀ Bs sv A C := ⟨h.1.trans k.1, fun x => k.2 (h.2 x)⟩
theorem kp_b {n₀ Bs : Nat} {sv : Value} {w : World} (hn : n₀ ≤ w.heap.size) (hBs : Bs < w.heap.size) (W : World) (l : Nat) (o o' : Obj) (hl : w.heap.size ≤ l) (h : W.heap[l]? = some o) (h1 : o.isCells = false) (h2 : o.isWalk = false) : Kp n₀ Bs sv W (W.putObj l o') :=
  ⟨belowK_b hn W l o o' hl h h1 h2, fun hb => hb.kept (grownBy_putObj' W l o') (by intro e; cases e; omega)⟩
theorem back_stops (F : Fence) (n : Nat) (h7 : F.fn 126) (hro : F.round = none) (hn : 1 ≤ n) (Bs cap : Nat) (ad : Addr) (zs : List Int) (hz : ∀ d ∈ zs, 0 ≤ d ∧ d < 1000000000) (hlen : zs.length ≤ 1000000) (w0 w : World) (hw : Below w0.heap.size w0 w) (hBs : Boxed w Bs 62 (.slice (some ad) zs.length cap)) (hc : ∀ j, j < zs.length → w0.cell? (ad.add j) = some (.int .u32 (zs[j]?.getD 0))) :
    SeqStopsK F n Tryz.prog 126 #[.pointer (some ⟨Bs, 0, none⟩)] (fun x : Pd => #[Value.int .i64 (x.1.1 : Int), Value.int .u32 x.1.2]) (Kp w0.heap.size Bs (.slice (some ad) zs.length cap)) (fun ys => ys = upto (downTo zs hz) zs.length)
      (fun pre => ∃ k, k ≤ zs.length ∧ pre = upto (downTo zs hz) k) zs.length w := fun l J Jx W hW _ _ hY h0 =>
  back1_in F n h7 hro hn l Bs cap ad zs hz hlen w0 J Jx hY W (hw.trans (hW.mono hw.size)) ((hW.block Bs hBs.lt).trans hBs) hc h0
/-! The text that is written. -/
def tx (len : Nat) (i : Nat) (d : Int) : List UInt8 := (if i + 1 < len then List.replicate (9 - (Lib.decDigits d.toNat).length) 48 else []) ++ Lib.decDigits d.toNat
def txt (len : Nat) (l : List Pd) : List UInt8 := (l.map fun x => tx len x.1.1 x.1.2).flatten
theorem txt_snoc (len : Nat) (l : List Pd) (x : Pd) : txt len (l ++ [x]) = txt len l ++ tx len x.1.1 x.1.2 := by simp [txt]
theorem dec9 (k : Nat) : ∀ u, u < 10 ^ (k + 1) → 1 ≤ (Lib.decDigits u).length ∧ (Lib.decDigits u).length ≤ k + 1 := by
  induction k with
  | zero => intro u hu; rw [Lib.decDigits, dif_pos (by omega)]; simp
  | succ k ih =>
    intro u hu
    rw [Lib.decDigits]
    by_cases h : u < 10
    · rw [dif_pos h]; simp
    · rw [dif_neg h]
      have := ih (u / 10) (by rw [Nat.pow_succ] at hu; omega)
      simp only [List.length_append, List.length_cons, List.length_nil]
      omega
theorem dec_pd (d : Int) (h0 : 0 ≤ d) (h1 : d < 1000000000) : 1 ≤ (Lib.decDigits d.toNat).length ∧ (Lib.decDigits d.toNat).length ≤ 9 := dec9 8 d.toNat (by have : (10 : Nat) ^ (8 + 1) = 1000000000 := by decide
                                                                                                                                                            omega)
theorem tx_len (len i : Nat) (d : Int) (h0 : 0 ≤ d) (h1 : d < 1000000000) : (tx len i d).length ≤ 9 := by
  have := dec_pd d h0 h1
  unfold tx
  split
  · simp; omega
  · simp; omega
theorem txt_len (len : Nat) (l : List Pd) : (txt len l).length ≤ 9 * l.length := by
  induction l with
  | nil => simp [txt]
  | cons x r ih =>
    have h1 : txt len (x :: r) = tx len x.1.1 x.1.2 ++ txt len r := by simp [txt]
    have := tx_len len x.1.1 x.1.2 x.2.1 x.2.2
    rw [h1, List.length_append, List.length_cons]
    omega
def textI : List Int → List UInt8
  | [] => [48]
  | [d] => Lib.decDigits d.toNat
  | d :: e :: r => textI (e :: r) ++ (List.replicate (9 - (Lib.decDigits d.toNat).length) 48 ++ Lib.decDigits d.toNat)
def flat (f : Nat → List UInt8) (k : Nat) : List UInt8 := ((List.range k).map f).flatten
theorem flat_succ (f : Nat → List UInt8) (k : Nat) : flat f (k + 1) = flat f k ++ f k := by simp [flat, List.range_succ]
theorem flat_congr {f g : Nat → List UInt8} : ∀ k, (∀ j, j < k → f j = g j) → flat f k = flat g k
  | 0, _ => rfl
  | k + 1, h => by rw [flat_succ, flat_succ, flat_congr k (fun j hj => h j (by omega)), h k (by omega)]
theorem text_flat : ∀ zs : List Int, zs ≠ [] → flat (fun j => tx zs.length (zs.length - 1 - j) (zs[zs.length - 1 - j]?.getD 0)) zs.length = textI zs
  | [], h => absurd rfl h
  | [d], _ => by simp [flat, tx, textI]
  | d :: e :: r, _ => by
    have ih := text_flat (e :: r) (by simp)
    rw [show (d :: e :: r).length = (e :: r).length + 1 from rfl, flat_succ, textI, ← ih]
    congr 1
    · refine flat_congr _ fun j hj => ?_
      obtain ⟨m, hm⟩ : ∃ m, (e :: r).length = j + 1 + m := ⟨(e :: r).length - (j + 1), by omega⟩
      have h1 : (e :: r).length + 1 - 1 - j = m + 1 := by omega
      have h2 : (e :: r).length - 1 - j = m := by omega
      rw [h1, h2, List.getElem?_cons_succ]
      unfold tx
      by_cases h : m + 1 < (e :: r).length
      · rw [if_pos h, if_pos (by omega)]
      · rw [if_neg h, if_neg (by omega)]
    · have h1 : (e :: r).length + 1 - 1 - (e :: r).length = 0 := by omega
      rw [h1]
      unfold tx
      rw [if_pos (by simp)]
      rfl
theorem txt_all (zs : List Int) (hz : ∀ d ∈ zs, 0 ≤ d ∧ d < 1000000000) (h0 : zs ≠ []) : txt zs.length (upto (downTo zs hz) zs.length) = textI zs := by
  rw [← text_flat zs h0]
  unfold txt upto flat downTo
  rw [List.map_map]
  rfl
/-! What a builder's cells keep. -/
theorem bld_keep {B b : Nat} {bs : List Value} {W W' : World} (h : Lib.IsBuilderF 126 5 B b bs W) (hk : ∀ (k : Nat) (o : Obj), W.heap[k]? = some o → o.isCells = true → W'.heap[k]? = some o) : Lib.IsBuilderF 126 5 B b bs W' := by
  have one : ∀ p, Lib.BuilderAtF 126 5 B b p bs W → Lib.BuilderAtF 126 5 B b p bs W' := by
    rintro p ⟨hB, v, hb, hown, hne⟩
    refine ⟨hB, v, hk _ _ hb rfl, ⟨hown.1, ?_⟩, hne⟩
    rcases hown.2 with h | ⟨g, cap, cur, fz, hv, hg, hh, r⟩
    · exact .inl h
    · exact .inr ⟨g, cap, cur, fz, hv, hg, hk _ _ hh rfl, r⟩
  exact h.imp (one _) (one _)
theorem bld_at {B b : Nat} {bs : List Value} {W : World} (h : Lib.BuilderAtF 126 5 B b (.pointer (some ⟨b, 0, none⟩)) bs W) : Lib.IsBuilderF 126 5 B b bs W := .inr h
theorem bld_block {B b : Nat} {bs : List Value} {W : World} (h : Lib.IsBuilderF 126 5 B b bs W) : ∃ c, W.heap[b]? = some (.cells c 126 (0, 0)) := by
  rcases h with ⟨_, v, hb, _⟩ | ⟨_, v, hb, _⟩
  · exact ⟨_, hb⟩
  · exact ⟨_, hb⟩
theorem keeps_below {W W' : World} (h : Below W.heap.size W W') : KeepsOthers W W' := ⟨h.size, fun k _ hk _ => (h.block k (Array.getElem?_eq_some_iff.1 hk).1).trans hk⟩
theorem keeps_write {B b : Nat} {bs : List Value} {W W' : World} (hb : Lib.IsBuilderF 126 5 B b bs W) (h : Lib.OthersKept 5 (some b) W W') (hs : W.heap.size ≤ W'.heap.size) : KeepsOthers W W' := by
  obtain ⟨c, hc⟩ := bld_block hb
  refine ⟨hs, fun k o hk ho => h k o hk ?_ ?_⟩
  · intro e
    cases e
    rw [hc] at hk
    cases hk
    cases ho
  · rintro c fz rfl
    cases ho
theorem box_write {b Bs : Nat} {sv : Value} {W W' : World} (hne : Bs ≠ b) (h : Lib.OthersKept 5 (some b) W W') (hx : Boxed W Bs 62 sv) : Boxed W' Bs 62 sv :=
  h Bs _ hx (by intro e; cases e; exact hne rfl) (by rintro c fz e; cases e)
theorem pad_cells (m : Nat) (hm : m ≤ 8) : Lib.strCells ((⟨#[48, 48, 48, 48, 48, 48, 48, 48]⟩ : ByteArray).extract 0 m) = Lib.byteCells (List.replicate m 48) := by
  have : m = 0 ∨ m = 1 ∨ m = 2 ∨ m = 3 ∨ m = 4 ∨ m = 5 ∨ m = 6 ∨ m = 7 ∨ m = 8 := by omega
  rcases this with rfl | rfl | rfl | rfl | rfl | rfl | rfl | rfl | rfl <;> rfl
theorem pad_size (m : Nat) (hm : m ≤ 8) : ((⟨#[48, 48, 48, 48, 48, 48, 48, 48]⟩ : ByteArray).extract 0 m).size = m := by
  have h := congrArg List.length (pad_cells m hm)
  rw [Lib.strCells_length, Lib.byteCells_length, List.length_replicate] at h
  exact h
theorem cells_app (a b : List UInt8) : Lib.byteCells (a ++ b) = Lib.byteCells a ++ Lib.byteCells b := by simp [Lib.byteCells]
def exact_nat_text.f (_k : Nat) (a : List Int) : Option ByteArray := if a.length ≤ 1000000 ∧ (a.all fun d => decide (0 ≤ d) && decide (d < 1000000000)) = true then some ⟨(textI a).toArray⟩ else none
theorem wide_calls {P : Program} {f : FuncId} {args : Array Value} {w : World} {R : Ending → World → Prop} (n : Nat) (h : Calls P f args w R) : CallsIn Fence.wide n P f args w R := callsIn_wide.2 h
set_option maxRecDepth 100000 in
set_option maxHeartbeats 4000000 in
theorem exact_nat_text.calls (k : Nat) (A0 : Option Addr) (c0 : Nat) (l0 : List Int) (r : ByteArray) (w : World) (hr0 : Kd.C (Kd.int .u32) w A0 l0.length l0) (hc0 : l0.length ≤ c0) (hGl : Gl w) (h : exact_nat_text.f k l0 = some r) :
    Calls Tryz.prog 63 #[.slice A0 l0.length c0] w fun e w' => e = .returned (.string r) ∧ Below w.heap.size w w' := by
  unfold exact_nat_text.f at h
  split at h
  case isFalse => cases h
  rename_i hh
  obtain rfl := Option.some.inj h
  obtain ⟨hlen, hall⟩ := hh
  have hz : ∀ d ∈ l0, 0 ≤ d ∧ d < 1000000000 := fun d hd => by
    have := List.all_eq_true.1 hall d hd
    simpa using this
  refine (callsIn_wide (n := 4)).1 ?_
  refine callsIn_of_wp_marks Tryz.func63 rfl trivial ?_ rfl
  simp only [Tryz.ntmps63, List.size_toArray, List.length_cons, List.length_nil, Nat.reduceAdd, Nat.reduceSub, Array.replicate_succ, Array.replicate_zero, List.push_toArray, List.append_toArray, List.nil_append, List.cons_append]
  by_cases h0 : l0 = []
  · subst h0
    gi_wp2_with (refine ⟨trivial, ?_⟩; gi_at_call 34; refine (wide_calls _ (exact_nat_zero.calls A0 c0 [] true _ (Kd.C_below hr0 ((Below.refl _ w).alloc (Nat.le_refl _) _)) hc0 (gl_below hGl ((Below.refl _ w).alloc (Nat.le_refl _) _)) rfl)).mono ?_; rintro e w' ⟨rfl, ⟨nd, rfl⟩⟩)
    exact ⟨_, results_tmp rfl _ _ _, rfl, pw_below_drewN ((Below.refl _ w).alloc (Nat.le_refl _) _) nd⟩
  · obtain ⟨ad, hA⟩ : ∃ ad, A0 = some ad := by
      obtain ⟨ad, e, _⟩ := Kd.at_int hr0 0 (Int.le_refl 0) (by have := List.length_pos_iff.2 h0; omega)
      exact ⟨ad, e⟩
    subst hA
    have hcell : ∀ j, j < l0.length → w.cell? (ad.add j) = some (.int .u32 (l0[j]?.getD 0)) := by
      intro j hj
      obtain ⟨ad', e, hx⟩ := Kd.at_int hr0 (j : Int) (by omega) (by omega)
      cases e
      rw [Int.toNat_natCast] at hx
      rw [hx]
      simp [rd, List.getD]
    have hfalse : exact_nat_zero.f l0 = some false := by
      unfold exact_nat_zero.f
      have := List.length_pos_iff.2 h0
      simp; omega
    gi_wp2_with (first
      | (refine ⟨trivial, ?_⟩; gi_at_call 34; refine (wide_calls _ (exact_nat_zero.calls (some ad) c0 l0 false _ (Kd.C_below hr0 ((Below.refl _ w).alloc (Nat.le_refl _) _)) hc0 (gl_below hGl ((Below.refl _ w).alloc (Nat.le_refl _) _)) hfalse)).mono ?_; rintro e w' ⟨rfl, ⟨nd, rfl⟩⟩)
      | (refine ⟨trivial, ?_⟩; gi_at_call 95; refine (back_in Fence.wide _ trivial rfl (some ad) l0.length c0 _).mono ?_; rintro e w' ⟨rfl, rfl⟩))
    have hsv : ∀ W : World, Boxed W w.heap.size 62 (.slice (some ad) l0.length c0) → W.cell? ⟨w.heap.size, 0, none⟩ = some (.slice (some ad) l0.length c0) := fun W h => h.cell
    have hn1 : Boxed (w.alloc (Obj.cells #[Value.slice (some ad) l0.length c0] 62)) w.heap.size 62 (.slice (some ad) l0.length c0) := Boxed.new w 62 _
    obtain ⟨WA, hWA⟩ : ∃ WA, (w.alloc (Obj.cells #[Value.slice (some ad) l0.length c0] 62)).drewN nd = WA := ⟨_, rfl⟩
    have hA1 : Boxed WA w.heap.size 62 (.slice (some ad) l0.length c0) := by rw [← hWA]; exact hn1
    have hA2 : WA.heap.size = w.heap.size + 1 := by rw [← hWA]; show (w.alloc _).heap.size = _; rw [World.size_alloc]
    have hA3 : Below w.heap.size w WA := by rw [← hWA]; exact pw_below_drewN ((Below.refl _ w).alloc (Nat.le_refl _) _) nd
    rw [hWA]
    clear hWA hn1
    have hB1 : (WA.alloc (Obj.cells #[Value.pointer none, Value.slice none 0 0] 126)).heap[w.heap.size + 1]? = some (Obj.cells #[Value.pointer none, Value.slice none 0 0] 126 (0, 0)) := by rw [← hA2]; exact World.alloc_heap_new WA _
    obtain ⟨W0, hW0⟩ : ∃ W0, (WA.alloc (Obj.cells #[Value.pointer none, Value.slice none 0 0] 126)).alloc (Obj.cells #[Value.slice (some ad) l0.length c0] 62) = W0 := ⟨_, rfl⟩
    have hsz : W0.heap.size = w.heap.size + 1 + 1 + 1 := by rw [← hW0, World.size_alloc, World.size_alloc, hA2]
    have hbox : Boxed W0 (w.heap.size + 1 + 1) 62 (.slice (some ad) l0.length c0) := by
      have := Boxed.new (WA.alloc (Obj.cells #[Value.pointer none, Value.slice none 0 0] 126)) 62 (.slice (some ad) l0.length c0)
      rw [World.size_alloc, hA2, hW0] at this
      exact this
    have hbox0 : Boxed W0 w.heap.size 62 (.slice (some ad) l0.length c0) := by rw [← hW0]; exact (hA1.alloc _).alloc _
    have hB0 : Below w.heap.size w W0 := by rw [← hW0]; exact (hA3.alloc (by omega) _).alloc (by rw [World.size_alloc]; omega) _
    have hbl0 : Lib.IsBuilderF 126 5 (w.heap.size + 1) (w.heap.size + 1) (Lib.byteCells (txt l0.length [])) W0 := by
      refine .inl ⟨Nat.le_refl _, .slice none 0 0, ?_, ⟨rfl, .inl ⟨rfl, rfl⟩⟩, by simp [Value.ownBlock]⟩
      rw [← hW0]
      exact (Below.heap_alloc _ _ _ (Array.getElem?_eq_some_iff.1 hB1).1).trans hB1
    rw [hW0]
    clear hW0 hB1 hA1 hA2 hA3
    refine wpIn_rangeFunc_ownG rfl (by omega) (gf := 126) (lb := #[.pointer (some ⟨w.heap.size + 1 + 1, 0, none⟩)]) rfl trivial (enters_of Tryz.func126 (by kernel_rfl) rfl)
      (back_stops Fence.wide _ trivial rfl (by omega) (w.heap.size + 1 + 1) c0 ad l0 hz hlen w W0 hB0 hbox hcell) kp_t (kp_b (by omega) (by omega)) (Below.refl _ _) (fun _ => rfl)
      (fun pre W => (Lib.IsBuilderF 126 5 (w.heap.size + 1) (w.heap.size + 1) (Lib.byteCells (txt l0.length pre)) W ∧ Boxed W w.heap.size 62 (.slice (some ad) l0.length c0)) ∧ Below w.heap.size w W)
      (fun _ _ _ => False)
      (OwnFrom.and (Own.from (fun s A B row hs hg hr => ⟨bld_keep hs.1 (fun k o hk ho => (hg.block k (Array.getElem?_eq_some_iff.1 hk).1 (by rintro e; obtain ⟨o', h1, h2⟩ := hr k e.symm; rw [hk] at h1; cases h1; rw [ho] at h2; cases h2)).trans hk), hs.2.kept hg (by rintro e; obtain ⟨o', h1, h2⟩ := hr _ e.symm; have h3 : A.heap[w.heap.size]? = _ := hs.2; rw [h3] at h1; cases h1; cases h2)⟩) _) (ownFrom_below (Nat.le_refl _) (by omega)))
      (fun _ _ _ _ _ hs _ _ => hs)
      ⟨⟨hbl0, hbox0⟩, hB0⟩
      (fun x => { tmps := #[.slice (some ad) l0.length c0, .pointer (some ⟨w.heap.size, 0, none⟩), .string ⟨#[]⟩, .pointer (some ⟨w.heap.size + 1, 0, none⟩), .int .i64 (x.1.1 : Int), .int .u32 x.1.2, undef, .slice (some ad) l0.length c0, .bool false, .slice (some ad) l0.length c0, .func (.func 126) #[] #[.pointer (some ⟨w.heap.size + 1 + 1, 0, none⟩)], .int .i64 (x.1.1 : Int), .int .u32 x.1.2, undef, undef, undef, undef, undef, undef, undef, undef, undef, undef, undef, undef, undef, undef, undef, undef], defers := [] }) ?assign ?body ?done ?stop
    case assign =>
      intro l x W K hK
      gi_wp2
      exact hK
    case stop =>
      rintro D c pre W hD _ h _
      exact h.elim
    case body =>
      rintro l pre x W ⟨⟨hb, hx⟩, hB⟩ hlt
      obtain ⟨⟨i, d⟩, hd0, hd1⟩ := x
      have hw64 : wrap64 d = d := by unfold wrap64; omega
      obtain ⟨S, hS⟩ : ∃ S : ByteArray, S = ⟨(Lib.decDigits d.toNat).toArray⟩ := ⟨_, rfl⟩
      have hitoa : strconv_Itoa.f d = some S := by
        unfold strconv_Itoa.f Lib.itoa
        rw [if_pos (by omega), if_pos (by omega), if_neg (by omega), hS]
      have hcx := hsv W hx
      have hSz : S.size = (Lib.decDigits d.toNat).length := by rw [hS]; show (Lib.decDigits d.toNat).toArray.size = _; simp
      have hSd := dec_pd d hd0 hd1
      rw [← hSz] at hSd
      have hS' := Aside0.mk hS
      have hSz' := Aside0.mk hSz
      clear hS hSz
      have ht9 := txt_len l0.length pre
      have hi : ∀ j : Nat, (j : Int) = (l0.length : Int) - 1 → j + 1 = l0.length := by intro j hj; omega
      have hwl : wrap64 ((l0.length : Int) - 1) = (l0.length : Int) - 1 := by unfold wrap64; omega
      have hws : wrap64 (9 - (S.size : Int)) = 9 - (S.size : Int) := by unfold wrap64; omega
      dsimp only
      by_cases hil : (i : Int) < (l0.length : Int) - 1
      · gi_wp2_with (first
          | (refine ⟨trivial, ?_⟩; gi_at_call 96; refine (CallsIn.inRound l (wide_calls _ (strconv_Itoa.calls d S W (gl_below hGl hB) hitoa))).mono ?_; rintro e w1 ⟨rfl, hw1⟩; have hx1 := (hw1.block _ hx.lt).trans hx; have hcx1 := hsv w1 hx1; have hb1 := bld_keep hb (fun k o hk _ => (hw1.block k (Array.getElem?_eq_some_iff.1 hk).1).trans hk))
          | (refine ⟨trivial, ?_⟩; gi_at_call 92; refine (CallsIn.inRound l (wide_calls _ (Tryz.Builder_WriteString_k (w.heap.size + 1) (w.heap.size + 1) _ _ w1 hb1 ?hl1 ?hs1))).mono ?_; (case hl1 => rw [Lib.byteCells_length, pad_size _ (by omega)]; omega); (case hs1 => exact Boxed.lt hx1); clear hcx1; rintro e w2 ⟨rfl, hat2, hbe2, hok2⟩; have hb2 := bld_at hat2; have hx2 := (hbe2.block w.heap.size (by omega)).trans hx1)
          | (refine ⟨trivial, ?_⟩; gi_at_call 92; refine (CallsIn.inRound l (wide_calls _ (Tryz.Builder_WriteString_k (w.heap.size + 1) (w.heap.size + 1) _ _ w2 hb2 ?hl2 ?hs2))).mono ?_; (case hl2 => rw [List.length_append, Lib.byteCells_length, Lib.strCells_length, pad_size _ (by omega)]; omega); (case hs2 => exact Boxed.lt hx2); rintro e w3 ⟨rfl, hat3, hbe3, hok3⟩; have hb3 := bld_at hat3; have hx3 := (hbe3.block w.heap.size (by omega)).trans hx2))
        have hW3 : Below w.heap.size W w3 := ((hw1.mono hB.size).trans (hbe2.mono (by omega))).trans (hbe3.mono (by omega))
        refine ⟨((keeps_below hw1).trans ((keeps_write hb1 hok2 hbe2.size).trans (keeps_write hb2 hok3 hbe3.size))).from _, ⟨hW3, fun hq => ?_⟩, ⟨?_, hx3⟩, hB.trans hW3⟩
        · exact box_write (by omega) hok3 (box_write (by omega) hok2 ((hw1.block _ hq.lt).trans hq))
        · rw [txt_snoc, cells_app]
          rw [pad_cells _ (by omega), List.append_assoc] at hb3
          have : tx l0.length i d = List.replicate (9 - S.size) 48 ++ Lib.decDigits d.toNat := by
            unfold tx
            rw [if_pos (by omega), hSz'.out]
          rw [this, cells_app]
          have e5 : Lib.strCells S = Lib.byteCells (Lib.decDigits d.toNat) := by rw [hS'.out]; rfl
          rw [e5] at hb3
          exact hb3
      · gi_wp2_with (first
          | (refine ⟨trivial, ?_⟩; gi_at_call 96; refine (CallsIn.inRound l (wide_calls _ (strconv_Itoa.calls d S W (gl_below hGl hB) hitoa))).mono ?_; rintro e w1 ⟨rfl, hw1⟩; have hx1 := (hw1.block _ hx.lt).trans hx; have hcx1 := hsv w1 hx1; have hb1 := bld_keep hb (fun k o hk _ => (hw1.block k (Array.getElem?_eq_some_iff.1 hk).1).trans hk))
          | (refine ⟨trivial, ?_⟩; gi_at_call 92; refine (CallsIn.inRound l (wide_calls _ (Tryz.Builder_WriteString_k (w.heap.size + 1) (w.heap.size + 1) _ _ w1 hb1 ?hl1 ?hs1))).mono ?_; (case hl1 => rw [Lib.byteCells_length]; omega); (case hs1 => exact Boxed.lt hx1); clear hcx1; rintro e w2 ⟨rfl, hat2, hbe2, hok2⟩; have hb2 := bld_at hat2; have hx2 := (hbe2.block w.heap.size (by omega)).trans hx1))
        have hW3 : Below w.heap.size W w2 := (hw1.mono hB.size).trans (hbe2.mono (by omega))
        refine ⟨((keeps_below hw1).trans (keeps_write hb1 hok2 hbe2.size)).from _, ⟨hW3, fun hq => ?_⟩, ⟨?_, hx2⟩, hB.trans hW3⟩
        · exact box_write (by omega) hok2 ((hw1.block _ hq.lt).trans hq)
        · rw [txt_snoc, cells_app]
          have : tx l0.length i d = Lib.decDigits d.toNat := by
            unfold tx
            rw [if_neg (by omega)]
            rfl
          rw [this]
          rw [hS'.out] at hb2
          exact hb2
    case done =>
      rintro D ys W hD rfl ⟨⟨hb, hx⟩, hB⟩ hK
      rw [txt_all l0 hz h0] at hb
      gi_wp2_with (refine ⟨trivial, ?_⟩; gi_at_call 94; refine (wide_calls _ (Tryz.Builder_String_any_k (w.heap.size + 1) (w.heap.size + 1) (textI l0) W hb ?hs1)).mono ?_; (case hs1 => exact Boxed.lt hx); rintro e w1 ⟨rfl, hb1, hbe1, hok1⟩)
      have hK' := (keeps_write hb hok1 hbe1.size).same D _ hK rfl
      refine ⟨by simp, .inl ⟨_, _, rfl, run_takeDeferred hK', ?_⟩⟩
      exact ⟨_, results_tmp rfl _ _ _, rfl, (hB.trans (hbe1.mono (by omega))).trans (belowK_b (w := w) (Nat.le_refl _) _ D _ _ (by omega) hK' rfl rfl)⟩
end Go.Proofs.YtckfdhnimmaeiaaGreatDoor.Pr
