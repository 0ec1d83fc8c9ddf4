/- axis.reader: kind, left, take, walked by hand. -/
import Derived.Test.YtefhcgnamfnkbaaDoorPut
namespace Go.Proofs.YtefhcgnamfnkbaaDoor.Pr
open Go.RowKit Go.Proofs.YtefhcgnamfnkbaaDoorW.PrintWords Go.Proofs.YtefhcgnamfnkbaaDoorW.PrintLast Go.Proofs.YtefhcgnamfnkbaaDoorW.PrintMore

theorem add_add' (a : Addr) (i j : Nat) : (a.add i).add j = a.add (i + j) := by
  unfold Addr.add
  by_cases h1 : i = 0 <;> by_cases h2 : j = 0 <;> simp [h1, h2, Nat.add_assoc]
theorem St.tail {w : World} {A : Option Addr} {c : Nat} {x : S127} {s : List S127} (h : St w A c (x :: s)) : St w (if c = 1 then A else A.map (·.add (1 * 2))) (c - 1) s := by
  have hcap : s.length + 1 ≤ c := h.2
  refine ⟨⟨rfl, by have := h.1.2.1; rw [List.length_cons] at this; omega, fun hp => ?_⟩, by omega⟩
  obtain ⟨ad, rfl, hcell⟩ := h.1.2.2 (by rw [List.length_cons]; omega)
  rw [if_neg (by omega)]
  refine ⟨ad.add (1 * 2), rfl, fun j p hj => ?_⟩
  obtain ⟨cs, h1, h2, h3⟩ := hcell (j + 1) p (by rw [List.getElem?_cons_succ]; exact hj)
  refine ⟨cs, h1, h2, fun i u hu => ?_⟩
  rw [add_add', show 1 * 2 + (j * k127.sz + i) = (j + 1) * k127.sz + i from by rw [Nat.add_mul]; show 1 * 2 + (j * 2 + i) = j * 2 + 1 * 2 + i; omega]
  exact h3 i u hu
theorem St.head {w : World} {A : Option Addr} {c : Nat} {x : S127} {s : List S127} (h : St w A c (x :: s)) : ∃ ad, A = some ad ∧ w.cell? ad = some (.int .i64 x.f0) ∧ w.cell? ⟨ad.block, ad.off + 1, none⟩ = some (.int .i64 x.f1) := by
  obtain ⟨ad, e, h0, h1⟩ := at_T127 h.1 0 (by omega) (by rw [List.length_cons]; omega)
  rw [show ((0 : Int)).toNat = 0 from rfl, show 0 * 2 = 0 from rfl, Addr.add_zero'] at h0 h1
  exact ⟨ad, e, h0, h1⟩
theorem add_block (a : Addr) (i : Nat) : (a.add i).block = a.block := by unfold Addr.add; split <;> rfl
theorem St.move {w w' : World} {A : Option Addr} {c : Nat} {l : List S127} (h : St w A c l) (hm : ∀ a x r, A = some a → l = x :: r → w'.heap[a.block]? = w.heap[a.block]?) : St w' A c l := by
  refine ⟨⟨h.1.1, h.1.2.1, fun hp => ?_⟩, h.2⟩
  obtain ⟨ad, e, hc⟩ := h.1.2.2 hp
  refine ⟨ad, e, fun j p hj => ?_⟩
  obtain ⟨cs, h1, h2, h3⟩ := hc j p hj
  obtain rfl := k127_open h2
  refine ⟨_, h1, k127_mk w' p, fun i u hu => ?_⟩
  have hb : w'.heap[ad.block]? = w.heap[ad.block]? := by
    cases l with
    | nil => simp at hp
    | cons x r => exact hm ad x r e rfl
  rw [World.cell?_of_block (w := w) (by rw [add_block]; exact hb)]
  exact h3 i u hu
theorem ap_drewN {B g : Nat} {w w1 : World} (h : Ap B g w w1) (n : Nat) : Ap B g w (w1.drewN n) := by
  have k := pw_below_drewN (Below.refl B w1) n
  exact h.trans ⟨k.os, k.tape, k.output, k.size, fun i hi _ => k.block i hi⟩
/-- The reader at p: the steps ahead, and how much of the first is used. -/
def Rd (N : Nat) (w : World) (p : Nat) (s : List S127) (u : Int) : Prop := ∃ A c, w.heap[p]? = some (.cells #[.slice A s.length c, .int .i64 u] 120 (0, 0)) ∧ St w A c s ∧ (∀ ad x r, A = some ad → s = x :: r → ad.block < N) ∧ N ≤ p
theorem Rd.up {N : Nat} {w w' : World} {p : Nat} {s : List S127} {u : Int} (h : Rd N w p s u) (k : Below w.heap.size w w') : Rd N w' p s u := by
  obtain ⟨A, c, h1, h2, h3, h4⟩ := h
  exact ⟨A, c, blk_below h1 k, h2.up k, h3, h4⟩
theorem Rd.moved {N : Nat} {w w' : World} {p : Nat} {A' : Option Addr} {c' : Nat} {s' : List S127} {u : Int} (h : St w A' c' s') (h1 : w'.heap[p]? = some (.cells #[.slice A' s'.length c', .int .i64 u] 120 (0, 0))) (hp : p < w.heap.size) (h3 : ∀ ad x r, A' = some ad → s' = x :: r → ad.block < N) (h4 : N ≤ p) (hA : Ap w.heap.size p w w') : Rd N w' p s' u :=
  ⟨A', c', h1, h.move (fun a x r e1 e2 => hA.block _ (by have := h3 a x r e1 e2; omega) (by have := h3 a x r e1 e2; omega)), h3, h4⟩
/-- The kind of the next step, or -1. -/
def kindOf (s : List S127) : Int := match s with | [] => -1 | x :: _ => x.f0
set_option maxHeartbeats 2000000 in
set_option maxRecDepth 100000 in
theorem kind_calls (N p : Nat) (s : List S127) (u : Int) (w : World) (h : Rd N w p s u) : Calls Tryd.prog 63 #[.pointer (some ⟨p, 0, none⟩)] w fun x w' => x = .returned (.int .i64 (kindOf s)) ∧ Below w.heap.size w w' := by
  obtain ⟨A, c, h1, h2, h3, h4⟩ := h
  have c0 : w.cell? ⟨p, 0, none⟩ = some (.slice A s.length c) := (blk_cell h1 0).trans rfl
  clear h1
  cases s with
  | nil =>
    clear h2
    simp only [kindOf]
    go_enter Tryd.func63, Tryd.ntmps63
    go_wp2
    go_ret
    exact ⟨rfl, climb⟩
  | cons x s =>
    obtain ⟨ad, rfl, m0, m1⟩ := h2.head
    clear h2
    simp only [kindOf]
    rw [List.length_cons] at c0
    have q1 : ((s.length + 1 : Nat) : Int) ≠ 0 := by omega
    have q2 : (0 : Int) < ((s.length + 1 : Nat) : Int) := by omega
    go_enter Tryd.func63, Tryd.ntmps63
    go_wp2
    go_ret
    exact ⟨rfl, climb⟩
set_option maxHeartbeats 2000000 in
set_option maxRecDepth 100000 in
theorem left_calls (N p : Nat) (x : S127) (s : List S127) (u : Int) (w : World) (h : Rd N w p (x :: s) u) : Calls Tryd.prog 65 #[.pointer (some ⟨p, 0, none⟩)] w fun r w' => r = .returned (.int .i64 (wrap64 (x.f1 - u))) ∧ Below w.heap.size w w' := by
  obtain ⟨A, c, h1, h2, h3, h4⟩ := h
  have c0 : w.cell? ⟨p, 0, none⟩ = some (.slice A (s.length + 1) c) := (blk_cell h1 0).trans rfl
  have c1 : w.cell? ⟨p, 1, none⟩ = some (.int .i64 u) := (blk_cell h1 1).trans rfl
  clear h1
  obtain ⟨ad, rfl, m0, m1⟩ := h2.head
  clear h2
  have q2 : (0 : Int) < ((s.length + 1 : Nat) : Int) := by omega
  go_enter Tryd.func65, Tryd.ntmps65
  go_wp2
  repeat (go_quiet (fail); try go_wp2)
  go_ret
  exact ⟨rfl, climb⟩
theorem Rd.new {w0 w : World} {A : Option Addr} {c : Nat} {s : List S127} (h : St w0 A c s) (k : Below w0.heap.size w0 w) : Rd w0.heap.size (w.alloc (.cells #[.slice A s.length c, .int .i64 0] 120)) w.heap.size s 0 := by
  refine ⟨A, c, blk_new w _, h.up (below_alloc k _), fun ad x r e1 e2 => ?_, k.size⟩
  subst e2
  obtain ⟨ad', e, m0, _⟩ := h.head
  rw [e1] at e
  cases e
  exact World.block_lt_of_cell? w0 _ m0
theorem tail_lt {p c : Nat} {ad : Addr} {x : S127} {s : List S127} (h : ∀ a y r, some ad = some a → x :: s = y :: r → a.block < p) : ∀ a y r, (if c = 1 then some ad else (some ad).map (·.add (1 * 2))) = some a → s = y :: r → a.block < p := by
  intro a y r e _
  have h0 := h ad x s rfl rfl
  split at e
  · cases e; exact h0
  · cases e; rw [add_block]; exact h0
/-- What the reader holds behind take. -/
def takeN (x : S127) (s : List S127) (u n : Int) : List S127 × Int := if wrap64 (u + n) = x.f1 then (s, 0) else (x :: s, wrap64 (u + n))
theorem ap_set0 {g i : Nat} {w w1 : World} {u : Value} (h : Ap w.heap.size g w w1) : Ap w.heap.size g w (w1.setCell ⟨g, i, none⟩ u) := ap_set1 h
set_option maxHeartbeats 2000000 in
set_option maxRecDepth 100000 in
theorem take_calls (N p : Nat) (x : S127) (s : List S127) (u n : Int) (w : World) (h : Rd N w p (x :: s) u) : Calls Tryd.prog 66 #[.pointer (some ⟨p, 0, none⟩), .int .i64 n] w fun r w' => r = .returned (.tuple #[]) ∧ Rd N w' p (takeN x s u n).1 (takeN x s u n).2 ∧ Ap w.heap.size p w w' := by
  obtain ⟨A, c, h1, h2, h3, h4⟩ := h
  have H1 := Aside0.mk h1
  have H2 := Aside0.mk h2
  have H3 := Aside0.mk h3
  have c0 : w.cell? ⟨p, 0, none⟩ = some (.slice A (s.length + 1) c) := (blk_cell h1 0).trans rfl
  have c1 : w.cell? ⟨p, 1, none⟩ = some (.int .i64 u) := (blk_cell h1 1).trans rfl
  have f0 := blk_frozen h1 0
  have f1 := blk_frozen h1 1
  clear h1
  obtain ⟨ad, rfl, m0, m1⟩ := h2.head
  have hne : ad.block ≠ p := by have := h3 ad x s rfl rfl; omega
  have hcap : s.length + 1 ≤ c := h2.2
  clear h2 h3
  have q2 : (0 : Int) < ((s.length + 1 : Nat) : Int) := by omega
  have q3 : (1 : Int) ≤ ((s.length + 1 : Nat) : Int) := by omega
  unfold takeN
  have hk := blk_put (cs' := #[.slice (some ad) (s.length + 1) c, .int .i64 (wrap64 (u + n))]) H1.out 1 (.int .i64 (wrap64 (u + n))) rfl
  have m2 : (w.setCell ⟨p, 1, none⟩ (.int .i64 (wrap64 (u + n)))).cell? ⟨ad.block, ad.off + 1, none⟩ = some (.int .i64 x.f1) := (cell_far (p := ⟨p, 1, none⟩) (a := ⟨ad.block, ad.off + 1, none⟩) hne _).trans m1
  have hA : Ap w.heap.size p w (w.setCell ⟨p, 1, none⟩ (.int .i64 (wrap64 (u + n)))) := ap_set1 (Ap.refl _ _ _)
  have HA := Aside0.mk hA
  have HK := Aside0.mk hk
  have M2 := Aside0.mk m2
  clear hk m2 hA
  by_cases hq : wrap64 (u + n) = x.f1
  · rw [if_pos hq]
    have HQ := Aside0.mk hq
    clear hq
    go_enter Tryd.func66, Tryd.ntmps66
    go_wp2
    have hk := HK.out
    have m2 := M2.out
    have hA := HA.out
    clear HK M2 HA c0 c1 f0 f1 m0 m1
    rw [HQ.out] at hk m2 hA ⊢
    revert hk m2 hA
    generalize w.setCell ⟨p, 1, none⟩ (.int .i64 x.f1) = w1
    intro hk m2 hA
    have d0 : w1.cell? ⟨p, 0, none⟩ = some (.slice (some ad) (s.length + 1) c) := (blk_cell hk 0).trans rfl
    have d1 : w1.cell? ⟨p, 1, none⟩ = some (.int .i64 x.f1) := (blk_cell hk 1).trans rfl
    have f0 := blk_frozen hk 0
    have f1 := blk_frozen hk 1
    have HK := Aside0.mk hk
    have HA := Aside0.mk hA
    clear hk hA
    repeat (go_quiet (fail); try go_wp2)
    all_goals
      go_end0
      have hA2 := ap_set1 (j := 1) (u := .int .i64 0) (ap_set1 (j := 0) (u := .slice (if c = 1 then some ad else (some ad).map (·.add (1 * 2))) s.length (c - 1)) (ap_drewN HA.out nq))
      have hk2 := blk_put (blk_put (blk_drewN HK.out nq) 0 (.slice (if c = 1 then some ad else (some ad).map (·.add (1 * 2))) s.length (c - 1)) rfl) 1 (.int .i64 0) rfl
      have hr := Rd.moved H2.out.tail hk2 (blk_lt H1.out) (tail_lt H3.out) h4 hA2
      first
      | (have hc : c = 1 := by omega
         rw [if_pos hc] at hr hA2
         subst hc
         exact ⟨rfl, hr, hA2⟩)
      | (have hc : ¬ c = 1 := by omega
         rw [if_neg hc] at hr hA2
         exact ⟨rfl, hr, hA2⟩)
  · rw [if_neg hq]
    have HQ : Aside0 (wrap64 (u + n) ≠ x.f1) := Aside0.mk hq
    clear hq
    go_enter Tryd.func66, Tryd.ntmps66
    go_wp2
    have hk := HK.out
    have m2 := M2.out
    have hA := HA.out
    have hq := HQ.out
    clear HK M2 HA c0 c1 f0 f1 m0 m1 HQ
    revert hk m2 hA
    generalize w.setCell ⟨p, 1, none⟩ (.int .i64 (wrap64 (u + n))) = w1
    revert hq
    generalize hv : wrap64 (u + n) = v
    intro hq hk m2 hA
    have HV := Aside0.mk hv
    clear hv
    have d0 : w1.cell? ⟨p, 0, none⟩ = some (.slice (some ad) (s.length + 1) c) := (blk_cell hk 0).trans rfl
    have d1 : w1.cell? ⟨p, 1, none⟩ = some (.int .i64 v) := (blk_cell hk 1).trans rfl
    have HK := Aside0.mk hk
    have HA := Aside0.mk hA
    clear hk hA
    repeat (go_quiet (fail); try go_wp2)
    go_end0
    rw [HV.out]
    exact ⟨rfl, Rd.moved H2.out (blk_drewN HK.out nq) (blk_lt H1.out) H3.out h4 (ap_drewN HA.out nq), ap_drewN HA.out nq⟩
end Go.Proofs.YtefhcgnamfnkbaaDoor.Pr
