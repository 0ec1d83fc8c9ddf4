/- RefThroughJoined, as plain functions. -/
import Derived.Test.YtefhcgnamfnkbaaDoorAxFlip
import Derived.Test.YtefhcgnamfnkbaaDoorAxLens
import Derived.Test.YtefhcgnamfnkbaaDoorAxJoin
import Derived.Test.YtefhcgnamfnkbaaDoorLaw
import Derived.Test.YtefhcgnamfnkbaaDoorPureRefCopiedBack
namespace Go.Proofs.YtefhcgnamfnkbaaDoor.Pure
open Go.RowKit Go.Proofs.YtefhcgnamfnkbaaDoor.Pr Go.Proofs.YtefhcgnamfnkbaaDoorW.PrintWords Go.Proofs.YtefhcgnamfnkbaaDoorW.PrintLast Go.Proofs.YtefhcgnamfnkbaaDoorW.PrintMore
open Go.Proofs.YtefhcgnamfnkbaaDoor
set_option linter.unusedVariables false
set_option linter.unusedSimpArgs false

theorem rest_zero (P : List S127) : rest P 0 = P := by
  cases P with
  | nil => rfl
  | cons x s => simp [rest]
theorem ok_zero {P : List S127} (v : Vd P) (h : ∀ s ∈ P, s.f1 ≤ 2147483647) : Ok P 0 := by
  refine ⟨v, Int.le_refl 0, fun x s e => ?_, fun x hx => ?_⟩
  · have := (v x (by rw [e]; exact List.mem_cons_self)).2
    omega
  · have := h x hx
    omega
theorem join_says (n : Nat) (la lb : List S127) (hA : la.length < 4611686018427387904) (hB : lb.length < 4611686018427387904) (hn : 4 * la.length + 4 * lb.length + 100000000000 ≤ n) :
    ∃ lc ej, joinF n la lb = some (lc, ej) ∧ (ej = 0 → chk none 0 0 la = 0 ∧ chk none 0 0 lb = 0 ∧ aft la = bef lb ∧ chk none 0 0 lc = 0 ∧ (lc.length : Int) ≤ 10000000000 ∧ ∀ x, 0 ≤ x → img lc x = comp la lb x) := by
  unfold joinF
  rw [check_eq la (by omega) n (by omega), Option.bind_some]
  by_cases h1 : chk none 0 0 la = 0
  case neg => rw [if_neg h1]; exact ⟨[], _, rfl, fun h => absurd h h1⟩
  rw [if_pos h1, check_eq lb (by omega) n (by omega), Option.bind_some]
  by_cases h2 : chk none 0 0 lb = 0
  case neg => rw [if_neg h2]; exact ⟨[], _, rfl, fun h => absurd h h2⟩
  rw [if_pos h2]
  obtain ⟨va, na, oa, ba, aa⟩ := (chk_ok la none 0 0 (by decide) (by decide) (by decide) (by decide)).1 h1
  obtain ⟨vb, nb, ob, bb, ab⟩ := (chk_ok lb none 0 0 (by decide) (by decide) (by decide) (by decide)).1 h2
  rw [Int.zero_add] at ba aa bb ab
  rw [lens_eq la (by omega) n (by omega) va ba aa, Option.bind_some, lens_eq lb (by omega) n (by omega) vb bb ab, Option.bind_some]
  dsimp only
  by_cases h3 : bef lb = aft la
  case neg => rw [if_neg h3]; exact ⟨[], 14, rfl, fun h => absurd h (by decide)⟩
  rw [if_pos h3]
  have z0 : bef (wl [] 0 0) = 0 := by rw [wl_zero]; rfl
  have z1 : aft (wl [] 0 0) = 0 := by rw [wl_zero]; rfl
  have p1 := bef_nn va
  have p2 := aft_nn va
  have p3 := bef_nn vb
  have p4 := aft_nn vb
  obtain ⟨l', a', c', e, q1, q2, q3, q4, q5⟩ := join_ok n la 0 lb 0 [] 0 0 10000000000 (ok_zero va na) (ok_zero vb nb) (by rw [rest_zero, rest_zero]; exact h3.symm) (fun s hs => by cases hs) (Int.le_refl 0) (Int.le_refl 0)
    (by rw [rest_zero, rest_zero, z0, z1]; omega) (by decide) (by omega)
  have hw := len_le (vd_wl (a := a') (c := c') q1)
  have hlw : l'.length ≤ (wl l' a' c').length := by unfold wl; simp only [List.length_append]; omega
  rw [e, Option.bind_some]
  dsimp only
  rw [if_pos (by omega)]
  have hck : axis_Check.f n (l' ++ adds 1 a' ++ adds 2 c') = some (chk none 0 0 (wl l' a' c')) := check_eq (wl l' a' c') (by omega) n (by omega)
  rw [hck, Option.bind_some]
  by_cases h4 : chk none 0 0 (wl l' a' c') = 0
  · rw [if_pos h4, if_pos h4]
    refine ⟨wl l' a' c', 0, rfl, fun _ => ⟨h1, h2, h3.symm, h4, by omega, fun x hx => ?_⟩⟩
    rw [q5 x hx, wl_zero, rest_zero, rest_zero]
    unfold glue
    rw [if_neg (show ¬ x < bef [] by show ¬ x < 0; omega)]
    show (comp la lb (x - 0)).map (· + 0) = _
    rw [Int.sub_zero]
    cases comp la lb x <;> simp
  · rw [if_neg h4, if_neg h4]
    exact ⟨[], 3, rfl, fun h => absurd h (by decide)⟩
/-! ### Through -/
theorem good_parts {s : ByteArray} {k n c n2 c2 : Int} {a b a2 b2 : Bool} (hg : Good s k n c n2 c2 a b a2 b2) : (k = 0 → n2 = 0 ∧ c2 = 0 ∧ a2 = false ∧ b2 = false) ∧ (k = 2 → c = 0 ∧ c2 = 0 ∧ b = false ∧ b2 = false) := by
  have hm := hg.2.2.1
  unfold cellref_meaning.f at hm
  refine ⟨fun h => ?_, fun h => ?_⟩
  · rw [if_pos h] at hm
    have hm := Option.some.inj hm
    simp only [Prod.mk.injEq] at hm
    obtain ⟨_, _, _, _, e1, e2, _, _, e3, e4⟩ := hm
    exact ⟨e1.symm, e2.symm, e3.symm, e4.symm⟩
  · rw [if_neg (by omega), if_pos h] at hm
    have hm := Option.some.inj hm
    simp only [Prod.mk.injEq] at hm
    obtain ⟨_, _, _, e1, _, e2, _, e3, _, e4⟩ := hm
    exact ⟨e1.symm, e2.symm, e3.symm, e4.symm⟩
theorem bad_good : Good ⟨#[]⟩ 4 0 0 0 0 false false false false := by
  refine ⟨by omega, ?_, ?_, ?_, .inr ⟨by omega, by omega⟩⟩
  · unfold cellref_name.f
    rw [if_neg (by decide)]
    unfold cellref_name.l0
    rw [if_neg (by decide)]
  · unfold cellref_meaning.f
    rw [if_neg (by decide), if_neg (by decide), if_neg (by decide), if_pos rfl]
  · refine ⟨?_, ?_, ?_, ?_⟩ <;> (rw [perm_iff]; omega)
theorem good_new {s : ByteArray} {k r c r2 c2 : Int} {x y x2 y2 : Bool} (hk : k = 0 ∨ k = 1 ∨ k = 2) (hg : Good s k r c r2 c2 x y x2 y2) {f l : Int} (h0 : 0 ≤ f) (h1 : f ≤ l) (h2 : l < 1073741824) : Good s k f c (if k = 0 then 0 else l) c2 x y x2 y2 := by
  obtain ⟨g1, g2, g3, ⟨p1, p2, p3, p4⟩, g5⟩ := hg
  have gp := good_parts (show Good s k r c r2 c2 x y x2 y2 from ⟨g1, g2, g3, ⟨p1, p2, p3, p4⟩, g5⟩)
  refine ⟨g1, g2, ?_, ⟨(perm_iff _).2 ⟨h0, by omega⟩, p2, (perm_iff _).2 (by split <;> omega), p4⟩, ?_⟩
  · unfold cellref_meaning.f
    rcases hk with rfl | rfl | rfl
    · obtain ⟨e1, e2, e3, e4⟩ := gp.1 rfl
      subst e1 e2 e3 e4
      rw [if_pos rfl, if_pos rfl]
    · rw [if_neg (by decide), if_neg (by decide), if_neg (by decide), if_neg (by decide)]
    · obtain ⟨e1, e2, e3, e4⟩ := gp.2 rfl
      subst e1 e2 e3 e4
      rw [if_neg (by decide), if_pos rfl]
  · rcases g5 with h | h
    · exact .inl h
    · by_cases hk0 : k = 0
      · exact .inl hk0
      · rw [if_neg hk0]; exact .inr ⟨h1, h.2⟩
theorem keep_nil (c d : Int) (h0 : 0 ≤ c) (h1 : c ≤ d) (h2 : d < 1073741824) : hullN c d [] 0 0 false 0 0 = (c, d, true) := by
  unfold hullN keepN
  have w1 : wrap64 (wrap64 ((0 : Int) + 1073741824) - 1) = 1073741823 := by unfold wrap64; omega
  rw [w1]
  have m1 : max c 0 = c := by omega
  have m2 : min d 1073741823 = d := by omega
  rw [m1, m2, if_pos h1, if_neg (by decide)]
  have w2 : ∀ z : Int, 0 ≤ z → z < 1073741824 → wrap64 (wrap64 (0 + z) - 0) = z := by
    intro z a b
    have e : wrap64 (0 + z) = z := by unfold wrap64; omega
    rw [e]; unfold wrap64; omega
  rw [w2 c h0 (by omega), w2 d (by omega) h2]
def hi (k r r2 : Int) : Int := if k = 0 then r else r2
def bad : ByteArray × Int × Int × Int × Int × Int × Bool × Bool × Bool × Bool := (⟨#[]⟩, 4, 0, 0, 0, 0, false, false, false, false)
theorem through_bad (P : List S127) : throughF ⟨#[]⟩ 4 0 0 0 0 false false false false P [] = some bad := by
  unfold throughF
  rw [if_pos rfl]; rfl
variable {s : ByteArray} {k r c r2 c2 : Int} {x y x2 y2 : Bool}
theorem through_rows (hk4 : k ≠ 4) (hg : Good s k r c r2 c2 x y x2 y2) (P : List S127) {f l : Int} {b : Bool} (hr : rowsN k r (if k = 0 then r else r2) P = (f, l, b)) :
    throughF s k r c r2 c2 x y x2 y2 P [] = if b = true then cellref_fitting.f s k f c l (hi k c c2) x y x2 y2 else some bad := by
  have p2 := (perm_iff _).1 hg.2.2.2.1.2.1
  have p4 := (perm_iff _).1 hg.2.2.2.1.2.2.2
  have hcol : colsN k c (hi k c c2) b [] = (c, hi k c c2, b) := by
    unfold colsN
    by_cases h : k = 2 ∨ b = false
    · rw [if_pos h]
    · rw [if_neg h]
      have hb : b = true := by cases b <;> simp_all
      rw [hb]
      refine keep_nil c _ p2.1 ?_ ?_
      · unfold hi; rcases hg.2.2.2.2 with h1 | h1
        · rw [if_pos h1]; exact Int.le_refl _
        · split <;> omega
      · unfold hi; split <;> omega
  unfold throughF
  rw [if_neg hk4, hr]
  dsimp only
  rw [show (if k = 0 then c else c2) = hi k c c2 from rfl, hcol]
  rfl
theorem fit_self (hg : Good s k r c r2 c2 x y x2 y2) : cellref_fitting.f s k r c r2 c2 x y x2 y2 = some (s, k, r, c, r2, c2, x, y, x2, y2) := by
  obtain ⟨g1, g2, g3, ⟨p1, p2, p3, p4⟩, g5⟩ := hg
  unfold cellref_fitting.f
  rw [g3, Option.bind_some]
  dsimp only
  rw [p1, p2, p3, p4]
  exact if_pos rfl
theorem fit_new (hk : k = 0 ∨ k = 1 ∨ k = 2) (hg : Good s k r c r2 c2 x y x2 y2) {f l : Int} (h0 : 0 ≤ f) (h1 : f ≤ l) (h2 : l < 1073741824) :
    cellref_fitting.f s k f c l (hi k c c2) x y x2 y2 = some (s, k, f, c, if k = 0 then 0 else l, c2, x, y, x2, y2) := by
  have gn := fit_self (good_new hk hg h0 h1 h2)
  rw [← gn]
  have gp := good_parts hg
  unfold cellref_fitting.f cellref_meaning.f hi
  rcases hk with rfl | rfl | rfl
  · rfl
  · rfl
  · rfl
theorem through_34 (hk : k = 3 ∨ k = 4) (hg : Good s k r c r2 c2 x y x2 y2) (P : List S127) : throughF s k r c r2 c2 x y x2 y2 P [] = some (s, k, r, c, r2, c2, x, y, x2, y2) := by
  rcases hk with rfl | rfl
  · rw [through_rows (by decide) hg P (f := r) (l := r2) (b := true) rfl, if_pos rfl]
    exact fit_self hg
  · unfold throughF
    rw [if_pos rfl]
theorem through_hit (hk : k = 0 ∨ k = 1 ∨ k = 2) (hg : Good s k r c r2 c2 x y x2 y2) (P : List S127) (vP : Vd P) (hb : bef P ≤ 2147483647) (ha : aft P ≤ 2147483647) (hP : ∀ z v, 0 ≤ z → z ≤ hi k r r2 → img P z = some v → v < 1073741824) :
    ∃ f l b, Hit (G P) r (hi k r r2) (f, l, b) ∧ throughF s k r c r2 c2 x y x2 y2 P [] = some (if b = true then (s, k, f, c, if k = 0 then 0 else l, c2, x, y, x2, y2) else bad) ∧ (b = true → 0 ≤ f ∧ f ≤ l ∧ l < 1073741824 ∧ (k = 0 → f = l)) := by
  have p1 := (perm_iff _).1 hg.2.2.2.1.1
  have p3 := (perm_iff _).1 hg.2.2.2.1.2.2.1
  have hle : r ≤ hi k r r2 := by
    unfold hi
    rcases hg.2.2.2.2 with h1 | h1
    · rw [if_pos h1]; exact Int.le_refl _
    · split <;> omega
  have hlt : hi k r r2 < 1073741824 := by unfold hi; split <;> omega
  obtain ⟨f, l, b, hr⟩ : ∃ f l b, hullN r (hi k r r2) P 0 0 false 0 0 = (f, l, b) := ⟨_, _, _, rfl⟩
  have h := hull_is P r (hi k r r2) p1.1 hle hlt vP hb ha
  rw [hr] at h
  have h' : Hit (G P) r (hi k r r2) (f, l, b) := h
  have hrows : rowsN k r (if k = 0 then r else r2) P = (f, l, b) := by
    unfold rowsN
    rw [if_neg (by omega)]
    exact hr
  have ht := through_rows (by omega) hg P hrows
  refine ⟨f, l, b, h', ?_, ?_⟩
  · cases b
    · rw [ht]; rfl
    · obtain ⟨p, q, q0, q1, q2, q3, q4, q5, q6, q7⟩ := hit_in vP h'
      have n1 := img_nn P p f vP q0 q4
      have n2 := hP q l (by omega) q3 q5
      rw [ht, if_pos rfl, if_pos rfl]
      exact fit_new hk hg n1 q6 n2
  · intro hbt
    subst hbt
    obtain ⟨p, q, q0, q1, q2, q3, q4, q5, q6, q7⟩ := hit_in vP h'
    have n1 := img_nn P p f vP q0 q4
    have n2 := hP q l (by omega) q3 q5
    refine ⟨n1, q6, n2, fun hk0 => ?_⟩
    have : hi k r r2 = r := by unfold hi; rw [if_pos hk0]
    have e : p = q := by omega
    subst e
    rw [q4] at q5
    exact Option.some.inj q5
theorem any_not {la : List S127} {j : Int} (h : anyK la j = false) : ∀ s ∈ la, s.f0 ≠ j := by
  intro s hs he
  unfold anyK at h
  rw [List.any_eq_false] at h
  exact h s hs (by simp [he])
theorem check_up {n : Nat} (hn : 203 ≤ n) {e : Int} (h : cellref_Check.f 203 s k r c r2 c2 x y x2 y2 = some e) : cellref_Check.f n s k r c r2 c2 x y x2 y2 = some e := by
  obtain ⟨d, rfl⟩ : ∃ d, n = 203 + d := ⟨n - 203, by omega⟩
  clear hn
  have hle : LeO (cellref_Check.f 203 s k r c r2 c2 x y x2 y2) (cellref_Check.f (203 + d) s k r c r2 c2 x y x2 y2) := by
    induction d with
    | zero => exact LeO.refl _
    | succ d ih => exact LeO.trans ih (cellref_Check.mono _ _ _ _ _ _ _ _ _ _ (203 + d))
  exact hle e h
theorem check_good {n : Nat} (hn : 203 ≤ n) (hg : Good s k r c r2 c2 x y x2 y2) : cellref_Check.f n s k r c r2 c2 x y x2 y2 = some 0 := by
  obtain ⟨e, h1, h2⟩ := check_iff s k r c r2 c2 x y x2 y2
  rw [h2.2 hg] at h1
  exact check_up hn h1
theorem mx_le {a b N : Int} (h : ¬ N < mx a b) : ¬ N < a ∧ b ≤ N := by
  unfold mx at h
  split at h <;> omega
theorem lengths_is (n : Nat) (L : List S127) (hL : L.length < 4611686018427387904) (hn : 4 * L.length + 1 ≤ n) (c0 : chk none 0 0 L = 0) : axis_Lengths.f n L = some (bef L, aft L, 0) := by
  obtain ⟨va, na, oa, ba, aa⟩ := (chk_ok L none 0 0 (by decide) (by decide) (by decide) (by decide)).1 c0
  rw [Int.zero_add] at ba aa
  unfold axis_Lengths.f
  rw [check_eq L (by omega) n hn, c0, Option.bind_some, if_pos rfl, lens_eq L (by omega) n (by omega) va ba aa, Option.bind_some]
set_option maxHeartbeats 2000000 in
theorem law_in (n : Nat) (la lb lc : List S127) (hg : Good s k r c r2 c2 x y x2 y2) (hn : 4 * la.length + 300 ≤ n) (hlen : 2 * la.length + 6 ≤ 1099511627776) (ca : chk none 0 0 la = 0) (cb : chk none 0 0 lb = 0) (cc : chk none 0 0 lc = 0)
    (hcomp : ∀ z, 0 ≤ z → img lc z = comp la lb z) (hr : r ≤ 268435456) (hr2 : r2 ≤ 268435456) (hba : bef la ≤ 268435456) (haa : aft la ≤ 268435456) (hab : aft lb ≤ 268435456) :
    ∃ (s0 : ByteArray) (s1 : Int) (s2 : Int) (s3 : Int) (s4 : Int) (s5 : Int) (s6 : Bool) (s7 : Bool) (s8 : Bool) (s9 : Bool), throughF s k r c r2 c2 x y x2 y2 la [] = some (s0, s1, s2, s3, s4, s5, s6, s7, s8, s9) ∧ cellref_Check.f n s0 s1 s2 s3 s4 s5 s6 s7 s8 s9 = some 0 ∧
      ∃ (t0 : ByteArray) (t1 : Int) (t2 : Int) (t3 : Int) (t4 : Int) (t5 : Int) (t6 : Bool) (t7 : Bool) (t8 : Bool) (t9 : Bool) (u0 : ByteArray) (u1 : Int) (u2 : Int) (u3 : Int) (u4 : Int) (u5 : Int) (u6 : Bool) (u7 : Bool) (u8 : Bool) (u9 : Bool), throughF s0 s1 s2 s3 s4 s5 s6 s7 s8 s9 lb [] = some (t0, t1, t2, t3, t4, t5, t6, t7, t8, t9) ∧ throughF s k r c r2 c2 x y x2 y2 lc [] = some (u0, u1, u2, u3, u4, u5, u6, u7, u8, u9) ∧ ((k = 0 ∨ anyK la 1 = false) → (t0, t1, t2, t3, t4, t5, t6, t7, t8, t9) = (u0, u1, u2, u3, u4, u5, u6, u7, u8, u9)) ∧
      (anyK la 2 = false → ∃ back, undoF n la = some (back, 0) ∧ axis_Check.f n back = some 0 ∧ throughF s0 s1 s2 s3 s4 s5 s6 s7 s8 s9 back [] = some (s, k, r, c, r2, c2, x, y, x2, y2)) := by
  have hun := fun hc => undo_is n la (by omega) hlen ca (any_not hc)
  by_cases hk : k = 3 ∨ k = 4
  · exact ⟨s, k, r, c, r2, c2, x, y, x2, y2, through_34 hk hg la, check_good (by omega) hg, s, k, r, c, r2, c2, x, y, x2, y2, s, k, r, c, r2, c2, x, y, x2, y2, through_34 hk hg lb, through_34 hk hg lc, fun _ => rfl,
      fun hc => ⟨flip la, (hun hc).1, (hun hc).2, through_34 hk hg _⟩⟩
  have hk : k = 0 ∨ k = 1 ∨ k = 2 := by have := hg.1; omega
  obtain ⟨va, na, oa, ba, aa⟩ := (chk_ok la none 0 0 (by decide) (by decide) (by decide) (by decide)).1 ca
  obtain ⟨vb, nb, ob, bb, ab⟩ := (chk_ok lb none 0 0 (by decide) (by decide) (by decide) (by decide)).1 cb
  obtain ⟨vc, nc, oc, bc, ac⟩ := (chk_ok lc none 0 0 (by decide) (by decide) (by decide) (by decide)).1 cc
  rw [Int.zero_add] at ba aa bb ab bc ac
  have p1 := (perm_iff _).1 hg.2.2.2.1.1
  have hle : r ≤ hi k r r2 := by
    unfold hi
    rcases hg.2.2.2.2 with h1 | h1
    · rw [if_pos h1]; exact Int.le_refl _
    · split <;> omega
  have hhi : hi k r r2 ≤ 268435456 := by unfold hi; split <;> omega
  obtain ⟨f, l, b, h1, t1, b1⟩ := through_hit hk hg la va ba aa (fun z v z0 z1 hz => by have := img_le la z v va z0 hz; omega)
  obtain ⟨f3, l3, b3, h3, t3, b3'⟩ := through_hit hk hg lc vc bc ac (fun z v z0 z1 hz => by
    rw [hcomp z z0] at hz
    obtain ⟨m, m1, m2⟩ := Option.bind_eq_some_iff.1 hz
    have e1 := img_le la z m va z0 m1
    have e0 := img_nn la z m va z0 m1
    have e2 := img_le lb m v vb e0 m2
    omega)
  cases b
  case false =>
    rw [if_neg (by decide)] at t1
    have h3' : Hit (G lc) r (hi k r r2) (0, 0, false) := hit_miss p1.1 hcomp h1
    have e3 := (hit_det h3 h3').1
    subst e3
    rw [if_neg (by decide)] at t3
    refine ⟨_, _, _, _, _, _, _, _, _, _, t1, check_good (by omega) bad_good, _, _, _, _, _, _, _, _, _, _, _, _, _, _, _, _, _, _, _, _, through_bad lb, t3, fun _ => rfl, fun hc => ?_⟩
    obtain ⟨v, hv⟩ := img_total la r va (any_not hc) p1.1
    rcases h1 with ⟨_, h1⟩ | ⟨h1, _⟩
    · have := h1 r (Int.le_refl _) hle
      rw [G_is p1.1, hv] at this
      cases this
    · cases h1
  case true =>
    rw [if_pos rfl] at t1
    obtain ⟨f0, fl, l0, fe⟩ := b1 rfl
    have hS := good_new hk hg f0 fl l0
    have hl2 : hi k f (if k = 0 then 0 else l) = l := by
      unfold hi
      by_cases k0 : k = 0
      · rw [if_pos k0]; exact fe k0
      · rw [if_neg k0, if_neg k0]
    obtain ⟨p, q, q0, q1, q2, q3, q4, q5, q6, q7⟩ := hit_in va h1
    have hl29 := img_le la q l va (by omega) q5
    obtain ⟨f2, l2, b2, h2, t2, b2'⟩ := through_hit hk hS lb vb bb ab (fun z v z0 z1 hz => by rw [hl2] at z1; have := img_le lb z v vb z0 hz; omega)
    rw [hl2] at h2
    have hback : anyK la 2 = false → ∃ back, undoF n la = some (back, 0) ∧ axis_Check.f n back = some 0 ∧ throughF s k f c (if k = 0 then 0 else l) c2 x y x2 y2 back [] = some (s, k, r, c, r2, c2, x, y, x2, y2) := by
      intro hc
      refine ⟨flip la, (hun hc).1, (hun hc).2, ?_⟩
      have fb := flip_bef va
      obtain ⟨f4, l4, b4, h4, t4, b4'⟩ := through_hit hk hS (flip la) (flip_vd va) (by rw [fb.1]; exact aa) (by rw [fb.2]; exact ba) (fun z v z0 z1 hz => by rw [hl2] at z1; have := img_le (flip la) z v (flip_vd va) z0 hz; rw [fb.2] at this; omega)
      rw [hl2] at h4
      obtain ⟨v, hv⟩ := img_total la r va (any_not hc) p1.1
      obtain ⟨v', hv'⟩ := img_total la (hi k r r2) va (any_not hc) (by omega)
      obtain ⟨_, rfl, rfl⟩ := hit_ends h1 hle (by rw [G_is p1.1]; exact hv) (by rw [G_is (by omega)]; exact hv')
      have g1 := img_flip la r f va p1.1 hv
      have g2 := img_flip la (hi k r r2) l va (by omega) hv'
      obtain ⟨rfl, rfl, rfl⟩ := hit_ends h4 fl (by rw [G_is f0]; exact g1) (by rw [G_is (by omega)]; exact g2)
      rw [t4, if_pos rfl]
      have gp := good_parts hg
      by_cases k0 : k = 0
      · rw [if_pos k0, (gp.1 k0).1]
      · rw [if_neg k0]; unfold hi; rw [if_neg k0]
    have hTU : (k = 0 ∨ anyK la 1 = false) → (if b2 = true then (s, k, f2, c, if k = 0 then 0 else l2, c2, x, y, x2, y2) else bad) = (if b3 = true then (s, k, f3, c, if k = 0 then 0 else l3, c2, x, y, x2, y2) else bad) := by
      intro hka
      have on : ∀ z, f ≤ z → z ≤ l → ∃ w, 0 ≤ w ∧ img la w = some z := by
        intro z z0 z1
        rcases hka with k0 | ha
        · have := fe k0
          exact ⟨p, q0, by rw [q4, show f = z from by omega]⟩
        · exact img_onto la z va (any_not ha) (by omega)
      have hh := hit_comp va vb p1.1 hcomp h1 h2 on
      obtain ⟨d1, d2⟩ := hit_det hh h3
      subst d1
      cases b2
      · rfl
      · obtain ⟨rfl, rfl⟩ := d2 rfl
        rfl
    obtain ⟨m0, m1, m2, m3, m4, m5, m6, m7, m8, m9, hm⟩ : ∃ m0 m1 m2 m3 m4 m5 m6 m7 m8 m9, (if b2 = true then (s, k, f2, c, if k = 0 then 0 else l2, c2, x, y, x2, y2) else bad) = (m0, m1, m2, m3, m4, m5, m6, m7, m8, m9) := ⟨_, _, _, _, _, _, _, _, _, _, rfl⟩
    obtain ⟨w0, w1, w2, w3, w4, w5, w6, w7, w8, w9, hw⟩ : ∃ m0 m1 m2 m3 m4 m5 m6 m7 m8 m9, (if b3 = true then (s, k, f3, c, if k = 0 then 0 else l3, c2, x, y, x2, y2) else bad) = (m0, m1, m2, m3, m4, m5, m6, m7, m8, m9) := ⟨_, _, _, _, _, _, _, _, _, _, rfl⟩
    rw [hm] at t2 hTU
    rw [hw] at t3 hTU
    exact ⟨_, _, _, _, _, _, _, _, _, _, t1, check_good (by omega) hS, _, _, _, _, _, _, _, _, _, _, _, _, _, _, _, _, _, _, _, _, t2, t3, hTU, hback⟩
/-- The law's plain side, whole. -/
theorem law_says (s : ByteArray) (k r c r2 c2 : Int) (x y x2 y2 : Bool) (la lb : List S127) (hA : la.length < 4611686018427387904) (hB : lb.length < 4611686018427387904) : ∃ n, LawSays n s k r c r2 c2 x y x2 y2 la lb := by
  obtain ⟨n, hn⟩ : ∃ n, n = 4 * la.length + 4 * lb.length + 1000000000000 := ⟨_, rfl⟩
  refine ⟨n, ?_⟩
  obtain ⟨lc, ej, hj, H⟩ := join_says n la lb hA hB (by omega)
  obtain ⟨ec, hec, hiff⟩ := check_iff s k r c r2 c2 x y x2 y2
  refine ⟨lc, ej, ec, hj, check_up (by omega) hec, fun h0 h1 => ?_⟩
  obtain ⟨ca, cb, hab, cc, hlen, hcomp⟩ := H h0
  have l1 := lengths_is n la hA (by omega) ca
  have l2 := lengths_is n lb hB (by omega) cb
  refine ⟨bef la, aft la, 0, bef lb, aft lb, 0, l1, l2, fun hg => ?_⟩
  obtain ⟨m1, m2⟩ := mx_le hg
  obtain ⟨m3, m4⟩ := mx_le m1
  obtain ⟨m5, m6⟩ := mx_le m3
  obtain ⟨m7, m8⟩ := mx_le m5
  obtain ⟨va, na, oa, ba, aa⟩ := (chk_ok la none 0 0 (by decide) (by decide) (by decide) (by decide)).1 ca
  have hla := len_le va
  have k0 : axis_Check.f n [] = some 0 := by rw [check_eq [] (by decide) n (by simp; omega)]; rfl
  have k1 : axis_Check.f n la = some 0 := by rw [check_eq la (by omega) n (by omega), ca]
  have k2 : axis_Check.f n lb = some 0 := by rw [check_eq lb (by omega) n (by omega), cb]
  have k3 : axis_Check.f n lc = some 0 := by rw [check_eq lc (by omega) n (by omega), cc]
  exact ⟨k0, k1, k2, k3, law_in n la lb lc (hiff.1 h1) (by omega) (by omega) ca cb cc hcomp m4 m2 (by omega) m8 m6⟩
end Go.Proofs.YtefhcgnamfnkbaaDoor.Pure
