/- What Join writes (plain). -/
import Derived.Test.YtefhcgnamfnkbaaDoorAxGlue
namespace Go.Proofs.YtefhcgnamfnkbaaDoor.Pr
open Go.RowKit Go.Proofs.YtefhcgnamfnkbaaDoorW.PrintWords Go.Proofs.YtefhcgnamfnkbaaDoorW.PrintLast Go.Proofs.YtefhcgnamfnkbaaDoorW.PrintMore
set_option linter.unusedVariables false

theorem len_le : ∀ {l : List S127}, Vd l → (l.length : Int) ≤ bef l + aft l
  | [], _ => by simp [bef, aft]
  | s :: r, h => by
    have ih := len_le h.tail
    obtain ⟨hk, hn⟩ := h.head
    simp only [List.length_cons, bef, aft]
    rcases hk with hk | hk | hk <;> simp only [hk] <;> simp <;> omega
theorem one_le : ∀ {l : List S127}, Vd l → ∀ s ∈ l, s.f1 ≤ bef l + aft l
  | [], _, s, hs => by cases hs
  | t :: r, h, s, hs => by
    have nb := bef_nn h.tail
    have na := aft_nn h.tail
    obtain ⟨hk, hn⟩ := h.head
    simp only [bef, aft]
    rcases List.mem_cons.1 hs with rfl | hs
    · rcases hk with hk | hk | hk <;> simp only [hk] <;> simp <;> omega
    · have ih := one_le h.tail s hs
      rcases hk with hk | hk | hk <;> simp only [hk] <;> simp <;> omega
theorem adds_le {k a : Int} (hk : k = 1 ∨ k = 2) (ha : 0 ≤ a) : bef (adds k a) + aft (adds k a) = a := by
  unfold adds
  split
  · rcases hk with rfl | rfl <;> simp [bef, aft]
  · simp [bef, aft]; omega
/-- A step is put: what stands behind it goes on. -/
theorem put_glue (l : List S127) (a c kind n T : Int) (hl : Vd l) (ha : 0 ≤ a) (hc : 0 ≤ c) (hk : kind = 0 ∨ kind = 1 ∨ kind = 2) (hn : 1 ≤ n) (hT : bef (wl l a c) + aft (wl l a c) + n ≤ T) (hT2 : T ≤ 1000000000000) :
    Vd (putN l a c kind n).1 ∧ 0 ≤ (putN l a c kind n).2.1 ∧ 0 ≤ (putN l a c kind n).2.2 ∧
    bef (wl (putN l a c kind n).1 (putN l a c kind n).2.1 (putN l a c kind n).2.2) = bef (wl l a c) + bef (step kind n) ∧
    aft (wl (putN l a c kind n).1 (putN l a c kind n).2.1 (putN l a c kind n).2.2) = aft (wl l a c) + aft (step kind n) ∧
    ∀ (g : Int → Option Int) (x : Int), 0 ≤ x → glue (wl (putN l a c kind n).1 (putN l a c kind n).2.1 (putN l a c kind n).2.2) g x = glue (wl l a c) (glue (step kind n) g) x := by
  have hv : Vd (wl l a c) := vd_wl hl
  have hle := one_le hv
  have e : bef (wl l a c) + aft (wl l a c) = bef l + aft l + (bef (adds 1 a) + aft (adds 1 a)) + (bef (adds 2 c) + aft (adds 2 c)) := by unfold wl; rw [bef_app, bef_app, aft_app, aft_app]; omega
  rw [adds_le (.inl rfl) ha, adds_le (.inr rfl) hc] at e
  have nb := bef_nn hl
  have na := aft_nn hl
  obtain ⟨s1, s2, s3, s4⟩ := put_same l a c kind n hl ha hc hk hn (by omega) (by omega) (fun s hs => by have := hle s hs; omega)
  refine ⟨s2, s3, s4, by rw [s1.b, bef_app], by rw [s1.a, aft_app], fun g x hx => ?_⟩
  rw [glue_same s1 g x hx, glue_app _ _ g x hv (vd_step hk hn) hx]
theorem rest_nil (u : Int) : rest [] u = [] := rfl
structure Ok (P : List S127) (u : Int) : Prop where
  v : Vd P
  u0 : 0 ≤ u
  lt : ∀ x s, P = x :: s → u < x.f1
  big : ∀ x ∈ P, x.f1 < 9223372036854775808
theorem Ok.step {x : S127} {s : List S127} {u n : Int} (h : Ok (x :: s) u) (hn : 1 ≤ n) (hnx : n ≤ x.f1 - u) :
    Same (rest (x :: s) u) (⟨x.f0, n⟩ :: rest (takeN x s u n).1 (takeN x s u n).2) ∧ Ok (takeN x s u n).1 (takeN x s u n).2 ∧ (takeN x s u n).1.length ≤ s.length + 1 ∧ (n = x.f1 - u → (takeN x s u n).1.length = s.length) ∧ Vd (rest (takeN x s u n).1 (takeN x s u n).2) := by
  obtain ⟨hk, h1⟩ := h.v.head
  obtain ⟨t1, t2, t3, t4⟩ := take_rest x s u n h.u0 hn hnx hk h.v.tail (h.big x List.mem_cons_self) (fun y hy => (h.v.tail y hy).2)
  have w : wrap64 (u + n) = u + n := by have := h.big x List.mem_cons_self; have := h.u0; unfold wrap64; omega
  refine ⟨t1, ?_, ?_, ?_, t2⟩
  · refine ⟨?_, t3, t4, ?_⟩
    · unfold takeN; rw [w]; split
      · exact h.v.tail
      · exact h.v
    · unfold takeN; rw [w]; split
      · exact fun y hy => h.big y (List.mem_cons_of_mem _ hy)
      · exact h.big
  · unfold takeN; split <;> simp
  · intro e
    unfold takeN
    rw [w, if_pos (by omega)]
theorem Ok.vr {P : List S127} {u : Int} (h : Ok P u) : Vd (rest P u) := by
  cases P with
  | nil => exact fun s hs => by cases hs
  | cons x s =>
    intro t ht
    rcases List.mem_cons.1 ht with rfl | ht
    · exact ⟨h.v.head.1, by have := h.lt x s rfl; show 1 ≤ x.f1 - u; omega⟩
    · exact h.v.tail t ht
/-- What join_ok says of a state. -/
def Jok (k : Nat) (P : List S127) (u : Int) (Q : List S127) (v : Int) (l : List S127) (a c T : Int) : Prop :=
  ∃ l' a' c', joinN k P u Q v l a c = some (l', a', c') ∧ Vd l' ∧ 0 ≤ a' ∧ 0 ≤ c' ∧ bef (wl l' a' c') + aft (wl l' a' c') ≤ T ∧ ∀ x, 0 ≤ x → img (wl l' a' c') x = glue (wl l a c) (comp (rest P u) (rest Q v)) x
theorem jok_put {k : Nat} {P P' Q Q' : List S127} {u u' v v' : Int} {l : List S127} {a c T kind n : Int} (hl : Vd l) (ha : 0 ≤ a) (hc : 0 ≤ c) (hk : kind = 0 ∨ kind = 1 ∨ kind = 2) (hn : 1 ≤ n) (hT : bef (wl l a c) + aft (wl l a c) + n ≤ T) (hT2 : T ≤ 1000000000000)
    (hcomp : ∀ y, 0 ≤ y → comp (rest P u) (rest Q v) y = glue (step kind n) (comp (rest P' u') (rest Q' v')) y)
    (he : joinN (k + 1) P u Q v l a c = joinN k P' u' Q' v' (putN l a c kind n).1 (putN l a c kind n).2.1 (putN l a c kind n).2.2)
    (h : Jok k P' u' Q' v' (putN l a c kind n).1 (putN l a c kind n).2.1 (putN l a c kind n).2.2 T) : Jok (k + 1) P u Q v l a c T := by
  obtain ⟨_, _, _, _, _, hg⟩ := put_glue l a c kind n T hl ha hc hk hn hT hT2
  obtain ⟨l', a', c', e, q1, q2, q3, q4, q5⟩ := h
  refine ⟨l', a', c', by rw [he, e], q1, q2, q3, q4, fun x hx => ?_⟩
  rw [q5 x hx, hg _ x hx]
  exact glue_ext (fun y hy => (hcomp y hy).symm) x
set_option maxHeartbeats 8000000 in
theorem join_ok : ∀ (k : Nat) (P : List S127) (u : Int) (Q : List S127) (v : Int) (l : List S127) (a c T : Int), Ok P u → Ok Q v → aft (rest P u) = bef (rest Q v) → Vd l → 0 ≤ a → 0 ≤ c →
    bef (wl l a c) + aft (wl l a c) + bef (rest P u) + aft (rest P u) + aft (rest Q v) ≤ T → T ≤ 1000000000000 → P.length + Q.length + 1 ≤ k → Jok k P u Q v l a c T
  | 0, P, u, Q, v, l, a, c, T, hP, hQ, hf, hl, ha, hc, hT, hT2, hk => by omega
  | k + 1, P, u, Q, v, l, a, c, T, hP, hQ, hf, hl, ha, hc, hT, hT2, hk => by
    have hv : Vd (wl l a c) := vd_wl hl
    have e : bef (wl l a c) + aft (wl l a c) = bef l + aft l + (bef (adds 1 a) + aft (adds 1 a)) + (bef (adds 2 c) + aft (adds 2 c)) := by unfold wl; rw [bef_app, bef_app, aft_app, aft_app]; omega
    rw [adds_le (.inl rfl) ha, adds_le (.inr rfl) hc] at e
    have hlen := len_le hl
    have n1 := bef_nn hP.vr
    have n2 := aft_nn hP.vr
    have n3 := bef_nn hQ.vr
    have n4 := aft_nn hQ.vr
    have n5 := bef_nn hl
    have n6 := aft_nn hl
    have hL : l.length + 3 ≤ 1099511627776 := by omega
    cases P with
    | nil =>
      cases Q with
      | nil =>
        refine ⟨l, a, c, by simp [joinN, hL], hl, ha, hc, by omega, fun x hx => ?_⟩
        have h1 := img_app (wl l a c) [] x hv hx
        rw [List.append_nil] at h1
        rw [h1]
        unfold glue comp
        by_cases hb : x < bef (wl l a c)
        · simp [hb]
        · simp [hb, img, rest]
      | cons y t =>
        obtain ⟨hky, hy1⟩ := hQ.v.head
        have hlt := hQ.lt y t rfl
        have hv0 := hQ.u0
        have hbig := hQ.big y List.mem_cons_self
        have nt := bef_nn hQ.v.tail
        have y1 : y.f0 = 1 := by
          rcases hky with h | h | h
          · simp [rest, bef, aft, h] at hf; omega
          · exact h
          · simp [rest, bef, aft, h] at hf; omega
        have w : wrap64 (y.f1 - v) = y.f1 - v := by unfold wrap64; omega
        obtain ⟨q1, q2, q3, q4, q5⟩ := hQ.step (n := y.f1 - v) (by omega) (by omega)
        have b1 := q1.b
        have a1 := q1.a
        simp only [bef, aft, y1] at b1 a1
        simp at b1 a1
        have hT1 : bef (wl l a c) + aft (wl l a c) + (y.f1 - v) ≤ T := by have := aft_nn q5; omega
        have pg := put_glue l a c 1 (y.f1 - v) T hl ha hc (.inr (.inl rfl)) (by omega) hT1 hT2
        have s1 : bef (step 1 (y.f1 - v)) = 0 := by simp [step, bef]
        have s2 : aft (step 1 (y.f1 - v)) = y.f1 - v := by simp [step, aft]
        refine jok_put (P' := []) (u' := u) (Q' := (takeN y t v (y.f1 - v)).1) (v' := (takeN y t v (y.f1 - v)).2) hl ha hc (.inr (.inl rfl)) (by omega) hT1 hT2 (fun z hz => ?_) ?_ ?_
        · rw [comp_same (Same.refl _) q1 hP.vr z hz, y1]
          exact comp_add _ _ _ z hz
        · simp [joinN, hL, y1, w]
        · refine join_ok k _ _ _ _ _ _ _ _ hP q2 ?_ pg.1 pg.2.1 pg.2.2.1 ?_ hT2 ?_
          · rw [hf]; omega
          · rw [pg.2.2.2.1, pg.2.2.2.2.1, s1, s2]; omega
          · rw [q4 rfl]; simp only [List.length_cons] at hk; omega
    | cons x s =>
      obtain ⟨hkx, hx1⟩ := hP.v.head
      have hltx := hP.lt x s rfl
      have hu0 := hP.u0
      have hbigx := hP.big x List.mem_cons_self
      have wx : wrap64 (x.f1 - u) = x.f1 - u := by unfold wrap64; omega
      by_cases hx2 : x.f0 = 2
      · obtain ⟨q1, q2, q3, q4, q5⟩ := hP.step (n := x.f1 - u) (by omega) (by omega)
        have b1 := q1.b
        have a1 := q1.a
        simp only [bef, aft, hx2] at b1 a1
        simp at b1 a1
        have z1 := bef_nn q5
        have z2 := aft_nn q5
        have hT1 : bef (wl l a c) + aft (wl l a c) + (x.f1 - u) ≤ T := by omega
        have pg := put_glue l a c 2 (x.f1 - u) T hl ha hc (.inr (.inr rfl)) (by omega) hT1 hT2
        have s1 : bef (step 2 (x.f1 - u)) = x.f1 - u := by simp [step, bef]
        have s2 : aft (step 2 (x.f1 - u)) = 0 := by simp [step, aft]
        refine jok_put (P' := (takeN x s u (x.f1 - u)).1) (u' := (takeN x s u (x.f1 - u)).2) (Q' := Q) (v' := v) hl ha hc (.inr (.inr rfl)) (by omega) hT1 hT2 (fun z hz => ?_) ?_ ?_
        · rw [comp_same q1 (Same.refl _) hP.vr z hz, hx2]
          exact comp_cut _ _ _ z
        · simp [joinN, hL, hx2, wx]
        · refine join_ok k _ _ _ _ _ _ _ _ q2 hQ (by omega) pg.1 pg.2.1 pg.2.2.1 ?_ hT2 ?_
          · rw [pg.2.2.2.1, pg.2.2.2.2.1, s1, s2]; omega
          · rw [q4 rfl]; simp only [List.length_cons] at hk; omega
      · cases Q with
        | nil =>
          exfalso
          have na := aft_nn hP.v.tail
          simp only [rest, bef, aft, hx2, if_false] at hf
          omega
        | cons y t =>
          obtain ⟨hky, hy1⟩ := hQ.v.head
          have hlt := hQ.lt y t rfl
          have hv0 := hQ.u0
          have hbig := hQ.big y List.mem_cons_self
          have wy : wrap64 (y.f1 - v) = y.f1 - v := by unfold wrap64; omega
          by_cases y1 : y.f0 = 1
          · obtain ⟨q1, q2, q3, q4, q5⟩ := hQ.step (n := y.f1 - v) (by omega) (by omega)
            have b1 := q1.b
            have a1 := q1.a
            simp only [bef, aft, y1] at b1 a1
            simp at b1 a1
            have z2 := aft_nn q5
            have hT1 : bef (wl l a c) + aft (wl l a c) + (y.f1 - v) ≤ T := by omega
            have pg := put_glue l a c 1 (y.f1 - v) T hl ha hc (.inr (.inl rfl)) (by omega) hT1 hT2
            have s1 : bef (step 1 (y.f1 - v)) = 0 := by simp [step, bef]
            have s2 : aft (step 1 (y.f1 - v)) = y.f1 - v := by simp [step, aft]
            refine jok_put (P' := x :: s) (u' := u) (Q' := (takeN y t v (y.f1 - v)).1) (v' := (takeN y t v (y.f1 - v)).2) hl ha hc (.inr (.inl rfl)) (by omega) hT1 hT2 (fun z hz => ?_) ?_ ?_
            · rw [comp_same (Same.refl _) q1 hP.vr z hz, y1]
              exact comp_add _ _ _ z hz
            · simp only [joinN, hL, if_true, if_neg hx2, wy]
              rw [if_pos (by omega), if_pos y1]
            · refine join_ok k _ _ _ _ _ _ _ _ hP q2 ?_ pg.1 pg.2.1 pg.2.2.1 ?_ hT2 ?_
              · rw [hf]; omega
              · rw [pg.2.2.2.1, pg.2.2.2.2.1, s1, s2]; omega
              · rw [q4 rfl]; simp only [List.length_cons] at hk ⊢; omega
          · obtain ⟨n, hn⟩ : ∃ n, n = (mn (wrap64 (x.f1 - u)) (wrap64 (y.f1 - v))) := ⟨_, rfl⟩
            have hn2 : n = min (x.f1 - u) (y.f1 - v) := by rw [hn, wx, wy]; unfold mn; split <;> omega
            have wn : (mn (wrap64 (x.f1 - u)) (wrap64 (y.f1 - v))) = n := hn.symm
            obtain ⟨p1, p2, p3, p4, p5⟩ := hP.step (n := n) (by omega) (by omega)
            obtain ⟨q1, q2, q3, q4, q5⟩ := hQ.step (n := n) (by omega) (by omega)
            have z1 := bef_nn p5
            have z2 := aft_nn p5
            have z3 := bef_nn q5
            have z4 := aft_nn q5
            have bp := p1.b
            have ap := p1.a
            have bq := q1.b
            have aq := q1.a
            simp only [bef, aft] at bp ap bq aq
            have hkk : (takeN x s u n).1.length + (takeN y t v n).1.length + 1 ≤ k := by
              simp only [List.length_cons] at hk
              rcases Int.le_total (x.f1 - u) (y.f1 - v) with h | h
              · have := p4 (by omega); omega
              · have := q4 (by omega); omega
            have hn3 : 1 ≤ n := by omega
            clear hn hn2
            rcases hkx with hx | hx | hx
            · rcases hky with hy | hy | hy
              · simp only [hx, hy] at bp ap bq aq
                simp at bp ap bq aq
                have hT1 : bef (wl l a c) + aft (wl l a c) + n ≤ T := by omega
                have pg := put_glue l a c 0 n T hl ha hc (by decide) (by omega) hT1 hT2
                have s1 : bef (step 0 n) + aft (step 0 n) ≤ 2 * n := by simp [step, bef, aft] <;> omega
                refine jok_put (kind := 0) (n := n) (P' := (takeN x s u n).1) (u' := (takeN x s u n).2) (Q' := (takeN y t v n).1) (v' := (takeN y t v n).2) hl ha hc (by decide) (by omega) hT1 hT2 (fun z hz => ?_) ?_ ?_
                · rw [comp_same p1 q1 hP.vr z hz, hx, hy]
                  exact comp_kk _ _ _ z (by omega) p5 hz
                · simp [joinN, hL, hx, hy, wn]
                · refine join_ok k _ _ _ _ _ _ _ _ p2 q2 (by omega) pg.1 pg.2.1 pg.2.2.1 ?_ hT2 hkk
                  rw [pg.2.2.2.1, pg.2.2.2.2.1]; omega
              · exact absurd hy y1
              · simp only [hx, hy] at bp ap bq aq
                simp at bp ap bq aq
                have hT1 : bef (wl l a c) + aft (wl l a c) + n ≤ T := by omega
                have pg := put_glue l a c 2 n T hl ha hc (by decide) (by omega) hT1 hT2
                have s1 : bef (step 2 n) + aft (step 2 n) ≤ n := by simp [step, bef, aft] <;> omega
                refine jok_put (kind := 2) (n := n) (P' := (takeN x s u n).1) (u' := (takeN x s u n).2) (Q' := (takeN y t v n).1) (v' := (takeN y t v n).2) hl ha hc (by decide) (by omega) hT1 hT2 (fun z hz => ?_) ?_ ?_
                · rw [comp_same p1 q1 hP.vr z hz, hx, hy]
                  exact comp_kc _ _ _ z (by omega) p5 hz
                · simp [joinN, hL, hx, hy, wn]
                · refine join_ok k _ _ _ _ _ _ _ _ p2 q2 (by omega) pg.1 pg.2.1 pg.2.2.1 ?_ hT2 hkk
                  rw [pg.2.2.2.1, pg.2.2.2.2.1]; omega
            · rcases hky with hy | hy | hy
              · simp only [hx, hy] at bp ap bq aq
                simp at bp ap bq aq
                have hT1 : bef (wl l a c) + aft (wl l a c) + n ≤ T := by omega
                have pg := put_glue l a c 1 n T hl ha hc (by decide) (by omega) hT1 hT2
                have s1 : bef (step 1 n) + aft (step 1 n) ≤ n := by simp [step, bef, aft] <;> omega
                refine jok_put (kind := 1) (n := n) (P' := (takeN x s u n).1) (u' := (takeN x s u n).2) (Q' := (takeN y t v n).1) (v' := (takeN y t v n).2) hl ha hc (by decide) (by omega) hT1 hT2 (fun z hz => ?_) ?_ ?_
                · rw [comp_same p1 q1 hP.vr z hz, hx, hy]
                  exact comp_ak _ _ _ z (by omega) p5 hz
                · simp [joinN, hL, hx, hy, wn]
                · refine join_ok k _ _ _ _ _ _ _ _ p2 q2 (by omega) pg.1 pg.2.1 pg.2.2.1 ?_ hT2 hkk
                  rw [pg.2.2.2.1, pg.2.2.2.2.1]; omega
              · exact absurd hy y1
              · simp only [hx, hy] at bp ap bq aq
                simp at bp ap bq aq
                obtain ⟨l', a', c', e1, r1, r2, r3, r4, r5⟩ := join_ok k _ _ _ _ l a c T p2 q2 (by omega) hl ha hc (by omega) hT2 hkk
                refine ⟨l', a', c', by simp only [joinN, hL, hx, hy, wn]; simpa using e1, r1, r2, r3, r4, fun z hz => ?_⟩
                rw [r5 z hz]
                refine glue_ext (fun q hq => ?_) z
                rw [comp_same p1 q1 hP.vr q hq, hx, hy]
                exact (comp_ac _ _ _ q (by omega) p5 hq).symm
            · exact absurd hx hx2
end Go.Proofs.YtefhcgnamfnkbaaDoor.Pr
