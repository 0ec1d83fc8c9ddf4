/- A reference that is copied there and back, as plain functions. -/
import Derived.Test.YtefhcgnamfnkbaaDoorCopied
import Derived.Test.YtefhcgnamfnkbaaDoorPrx7
namespace Go.Proofs.YtefhcgnamfnkbaaDoor.Pure
open Go.RowKit Go.Proofs.YtefhcgnamfnkbaaDoor.Pr Go.Proofs.YtefhcgnamfnkbaaDoorW.PrintWords Go.Proofs.YtefhcgnamfnkbaaDoorW.PrintLast
open Go.Proofs.YtefhcgnamfnkbaaDoor

theorem name_l0 (s : ByteArray) (hs : s.size ≤ 200) : ∀ (d i : Nat), i + d = s.size → ∃ e : Int, cellref_name.l0 (d + 1) s (s.size : Int) (i : Int) = some e := by
  intro d
  induction d with
  | zero =>
    intro i hi
    refine ⟨0, ?_⟩
    unfold cellref_name.l0
    rw [if_neg (by omega)]
  | succ d ih =>
    intro i hi
    obtain ⟨e, he⟩ := ih (i + 1) (by omega)
    unfold cellref_name.l0
    rw [if_pos (by omega), if_pos (by omega), if_pos (by omega)]
    have hw : wrap64 ((i : Int) + 1) = ((i + 1 : Nat) : Int) := by unfold wrap64; omega
    rw [hw]
    by_cases h1 : bt s (i : Int) < 32
    · exact ⟨9, by rw [if_pos h1]⟩
    · rw [if_neg h1]
      by_cases h2 : bt s (i : Int) > 126
      · exact ⟨9, by rw [if_pos h2]⟩
      · exact ⟨e, by rw [if_neg h2]; exact he⟩
theorem name_up (s : ByteArray) (k d : Nat) : LeO (cellref_name.f k s) (cellref_name.f (k + d) s) := by
  induction d with
  | zero => exact LeO.refl _
  | succ d ih => exact LeO.trans ih (cellref_name.mono s (k + d))
theorem name_total (s : ByteArray) : ∃ e : Int, cellref_name.f 201 s = some e := by
  by_cases hs : s.size ≤ 200
  · obtain ⟨e, he⟩ := name_l0 s hs s.size 0 (by omega)
    refine ⟨e, ?_⟩
    have : cellref_name.f (s.size + 1) s = some e := by
      unfold cellref_name.f
      rw [if_neg (by omega)]
      exact he
    have h := name_up s (s.size + 1) (200 - s.size) e this
    rw [show s.size + 1 + (200 - s.size) = 201 by omega] at h
    exact h
  · exact ⟨3, by unfold cellref_name.f; rw [if_pos (by omega)]⟩
/-- What Check lets pass. -/
def Good (s : ByteArray) (k n c n2 c2 : Int) (a b a2 b2 : Bool) : Prop :=
  (0 ≤ k ∧ k ≤ 4) ∧ cellref_name.f 201 s = some 0 ∧ cellref_meaning.f s k n c n2 c2 a b a2 b2 = some (s, k, n, c, n2, c2, a, b, a2, b2) ∧ (perm n = true ∧ perm c = true ∧ perm n2 = true ∧ perm c2 = true) ∧ (k = 0 ∨ (n ≤ n2 ∧ c ≤ c2))
theorem perm_iff (n : Int) : perm n = true ↔ 0 ≤ n ∧ n < 1073741824 := by
  unfold perm; simp
theorem bytes_ext {s t : ByteArray} (h : s.toList = t.toList) : s = t := by
  rw [ByteArray.toList_eq, ByteArray.toList_eq] at h
  have := Array.toList_inj.1 h
  cases s; cases t; simp_all
theorem meaning_some (s : ByteArray) (k n c n2 c2 : Int) (a b a2 b2 : Bool) : ∃ m, cellref_meaning.f s k n c n2 c2 a b a2 b2 = some m := by
  unfold cellref_meaning.f
  repeat' split
  all_goals exact ⟨_, rfl⟩
set_option maxHeartbeats 1000000 in
theorem check_gen (K : Nat) (hK : K = 201) (s : ByteArray) (k n c n2 c2 : Int) (a b a2 b2 : Bool) : ∃ e : Int, cellref_Check.f (K + 1 + 1) s k n c n2 c2 a b a2 b2 = some e ∧ (e = 0 ↔ Good s k n c n2 c2 a b a2 b2) := by
  by_cases h1 : k < 0
  · refine ⟨8, ?_, ?_⟩
    · unfold cellref_Check.f; rw [if_pos h1]; rw [cellref_Check.j0]; rw [if_pos rfl]
    · exact ⟨fun h => absurd h (by decide), fun h => absurd h.1.1 (by omega)⟩
  · by_cases h2 : k > 4
    · refine ⟨8, ?_, ?_⟩
      · unfold cellref_Check.f; rw [if_neg h1]; rw [cellref_Check.j0]; rw [if_pos (decide_eq_true h2)]
      · exact ⟨fun h => absurd h (by decide), fun h => absurd h.1.2 (by omega)⟩
    · obtain ⟨e, he⟩ := name_total s
      have hu : cellref_name.f (K + 1) s = some e := by rw [hK]; exact cellref_name.mono s 201 e he
      obtain ⟨m, hm⟩ := meaning_some s k n c n2 c2 a b a2 b2
      obtain ⟨m1, m2, m3, m4, m5, m6, m7, m8, m9, m10⟩ := m
      unfold cellref_Check.f
      rw [if_neg h1]
      rw [cellref_Check.j0]
      rw [if_neg (by simp [h2]), hu]
      simp only [Option.bind_some]
      by_cases h3 : e = 0
      · subst h3
        rw [if_pos rfl, hm]
        simp only [Option.bind_some]
        by_cases h4 : (s, k, n, c, n2, c2, a, b, a2, b2) = (m1, m2, m3, m4, m5, m6, m7, m8, m9, m10)
        · simp only [Prod.mk.injEq] at h4
          obtain ⟨rfl, rfl, rfl, rfl, rfl, rfl, rfl, rfl, rfl, rfl⟩ := h4
          rw [if_neg (by simp)]
          simp only [perm_eq, Option.bind_some]
          simp only [cellref_Check.j1]
          unfold Good
          rw [he, hm]
          cases p1 : perm n
          · exact ⟨2, by simp, by simp⟩
          cases p2 : perm c
          · exact ⟨2, by simp, by simp⟩
          cases p3 : perm n2
          · exact ⟨2, by simp, by simp⟩
          cases p4 : perm c2
          · exact ⟨2, by simp, by simp⟩
          by_cases k0 : k = 0
          · exact ⟨0, by simp [k0], by simp [k0]⟩
          by_cases q1 : n2 < n
          · exact ⟨5, by simp [k0, q1], by simp [k0]; omega⟩
          by_cases q2 : c2 < c
          · exact ⟨5, by simp [k0, q1, q2], by simp [k0]; omega⟩
          · exact ⟨0, by simp [k0, q1, q2], by simp [k0]; omega⟩
        · refine ⟨4, ?_, ?_⟩
          · rw [if_pos]
            simp only [Prod.mk.injEq] at h4
            simp only [Bool.or_eq_true, Bool.not_eq_true', beq_eq_false_iff_ne]
            refine Classical.byContradiction fun hc => h4 ?_
            simp only [not_or, Classical.not_not] at hc
            obtain ⟨e1, e2, e3, e4, e5, e6, e7, e8, e9, e10⟩ := hc
            exact ⟨bytes_ext e1, e2, e3, e4, e5, e6, e7, e8, e9, e10⟩
          · refine ⟨fun h => absurd h (by decide), fun h => ?_⟩
            have := h.2.2.1
            rw [hm] at this
            exact absurd (Option.some.inj this).symm h4
      · rw [if_neg h3]
        refine ⟨e, rfl, fun h => absurd h h3, fun h => ?_⟩
        have := h.2.1
        rw [he] at this
        exact Option.some.inj this
theorem check_iff (s : ByteArray) (k n c n2 c2 : Int) (a b a2 b2 : Bool) : ∃ e : Int, cellref_Check.f 203 s k n c n2 c2 a b a2 b2 = some e ∧ (e = 0 ↔ Good s k n c n2 c2 a b a2 b2) :=
  check_gen 201 rfl s k n c n2 c2 a b a2 b2
/-- Two numbers with their dollars in order. -/
def sw (n n2 : Int) (a a2 : Bool) : Int × Int × Bool × Bool := if n2 < n then (n2, n, a2, a) else (n, n2, a, a2)
def gon (a : Bool) (n d : Int) : Int := if a = true then n else n + d
theorem gone_eq (a : Bool) (n d : Int) (hn : perm n = true) (hd : -1000 ≤ d ∧ d ≤ 1000) : gone a n d = gon a n d := by
  rw [perm_iff] at hn
  unfold gone gon
  split
  · rfl
  · unfold wrap64; omega
theorem ordered_eq (s : ByteArray) (k n c n2 c2 : Int) (a b a2 b2 : Bool) (hk : k ≠ 0) : cellref_ordered.f s k n c n2 c2 a b a2 b2 = some (s, k, (sw n n2 a a2).1, (sw c c2 b b2).1, (sw n n2 a a2).2.1, (sw c c2 b b2).2.1, (sw n n2 a a2).2.2.1, (sw c c2 b b2).2.2.1, (sw n n2 a a2).2.2.2, (sw c c2 b b2).2.2.2) := by
  unfold cellref_ordered.f sw
  rw [if_neg hk]
  by_cases h1 : n2 < n
  · by_cases h2 : c2 < c
    · simp [h1, h2]
    · simp [h1, h2]
  · by_cases h2 : c2 < c
    · simp [h1, h2]
    · simp [h1, h2]
theorem fitting_fix (s : ByteArray) (k n c n2 c2 : Int) (a b a2 b2 : Bool) (h : cellref_meaning.f s k n c n2 c2 a b a2 b2 = some (s, k, n, c, n2, c2, a, b, a2, b2)) :
    cellref_fitting.f s k n c n2 c2 a b a2 b2 = if (perm n && perm c && perm n2 && perm c2) = true then some (s, k, n, c, n2, c2, a, b, a2, b2) else some (⟨#[]⟩, 4, 0, 0, 0, 0, false, false, false, false) := by
  unfold cellref_fitting.f
  rw [h]
  rfl
theorem far_no (d : Int) (hd : -1000 ≤ d ∧ d ≤ 1000) : cellref_far.f d = some false := by
  unfold cellref_far.f
  rw [if_neg (by omega)]
  simp only [Option.some.injEq, decide_eq_false_iff_not]
  omega
theorem copied_good (s : ByteArray) (k n c n2 c2 : Int) (a b a2 b2 : Bool) (hg : Good s k n c n2 c2 a b a2 b2) (d e : Int) (hd : -1000 ≤ d ∧ d ≤ 1000) (he : -1000 ≤ e ∧ e ≤ 1000) :
    cellref_Copied.f 203 s k n c n2 c2 a b a2 b2 d e =
      (cellref_meaning.f s k (gon a n d) (gon b c e) (gon a2 n2 d) (gon b2 c2 e) a b a2 b2).bind fun m =>
      (cellref_ordered.f m.1 m.2.1 m.2.2.1 m.2.2.2.1 m.2.2.2.2.1 m.2.2.2.2.2.1 m.2.2.2.2.2.2.1 m.2.2.2.2.2.2.2.1 m.2.2.2.2.2.2.2.2.1 m.2.2.2.2.2.2.2.2.2).bind fun o =>
      (cellref_fitting.f o.1 o.2.1 o.2.2.1 o.2.2.2.1 o.2.2.2.2.1 o.2.2.2.2.2.1 o.2.2.2.2.2.2.1 o.2.2.2.2.2.2.2.1 o.2.2.2.2.2.2.2.2.1 o.2.2.2.2.2.2.2.2.2).bind fun z =>
      some (z.1, z.2.1, z.2.2.1, z.2.2.2.1, z.2.2.2.2.1, z.2.2.2.2.2.1, z.2.2.2.2.2.2.1, z.2.2.2.2.2.2.2.1, z.2.2.2.2.2.2.2.2.1, z.2.2.2.2.2.2.2.2.2, 0) := by
  obtain ⟨x, hx, hi⟩ := check_iff s k n c n2 c2 a b a2 b2
  obtain rfl := hi.2 hg
  obtain ⟨_, _, _, ⟨p1, p2, p3, p4⟩, _⟩ := hg
  unfold cellref_Copied.f
  rw [hx, far_no d hd, far_no e he, gone_eq a n d p1 hd, gone_eq b c e p2 he, gone_eq a2 n2 d p3 hd, gone_eq b2 c2 e p4 he]
  rfl
theorem name_nil : cellref_name.f 201 (⟨#[]⟩ : ByteArray) = some 0 := by decide +kernel
theorem good_bad : Good ⟨#[]⟩ 4 0 0 0 0 false false false false := by
  refine ⟨by omega, name_nil, rfl, by decide, Or.inr (by omega)⟩
theorem copied_bad (d e : Int) (hd : -1000 ≤ d ∧ d ≤ 1000) (he : -1000 ≤ e ∧ e ≤ 1000) :
    cellref_Copied.f 203 ⟨#[]⟩ 4 0 0 0 0 false false false false d e = some (⟨#[]⟩, 4, 0, 0, 0, 0, false, false, false, false, 0) := by
  rw [copied_good _ _ _ _ _ _ _ _ _ _ good_bad d e hd he]
  rfl
theorem pair (n n2 d : Int) (a a2 : Bool) (h1 : perm n = true) (h2 : perm n2 = true) (h : n ≤ n2) (p : Int × Int × Bool × Bool) (hp : sw (gon a n d) (gon a2 n2 d) a a2 = p)
    (q : Int × Int × Bool × Bool) (hq : sw (gon p.2.2.1 p.1 (-d)) (gon p.2.2.2 p.2.1 (-d)) p.2.2.1 p.2.2.2 = q) :
    (q = (n, n2, a, a2) ∨ (a != a2) = true) ∧ perm q.1 = true ∧ perm q.2.1 = true ∧ p.1 ≤ p.2.1 := by
  rw [perm_iff] at h1 h2
  subst hp
  subst hq
  rw [perm_iff, perm_iff]
  cases a <;> cases a2 <;> unfold sw gon <;> simp only [Bool.false_eq_true, if_false, if_true]
  · have c1 : ¬ n2 + d < n + d := by omega
    have c2 : ¬ n2 + d + -d < n + d + -d := by omega
    simp only [c1, c2, Bool.false_eq_true, if_false]
    exact ⟨Or.inl (by rw [show n + d + -d = n by omega, show n2 + d + -d = n2 by omega]), by show 0 ≤ n + d + -d ∧ _; omega, by show 0 ≤ n2 + d + -d ∧ n2 + d + -d < _; omega, by show n + d ≤ n2 + d; omega⟩
  · refine ⟨Or.inr rfl, ?_⟩
    by_cases c1 : n2 < n + d
    · simp only [c1, if_true, Bool.false_eq_true, if_false]
      (repeat' split) <;> (try dsimp only) <;> first | omega | (exfalso; simp_all; done)
    · simp only [c1, Bool.false_eq_true, if_false]
      (repeat' split) <;> (try dsimp only) <;> first | omega | (exfalso; simp_all; done)
  · refine ⟨Or.inr rfl, ?_⟩
    by_cases c1 : n2 + d < n
    · simp only [c1, if_true, Bool.false_eq_true, if_false]
      (repeat' split) <;> (try dsimp only) <;> first | omega | (exfalso; simp_all; done)
    · simp only [c1, Bool.false_eq_true, if_false, if_true]
      (repeat' split) <;> (try dsimp only) <;> first | omega | (exfalso; simp_all; done)
  · have c1 : ¬ n2 < n := by omega
    simp only [c1, if_false, if_true]
    exact ⟨Or.inl trivial, h1, h2, h⟩
def dr (k d : Int) : Int := if k = 3 then 0 else d
def dc (k e : Int) : Int := if k = 2 then 0 else e
theorem meaning2 {s : ByteArray} {n c n2 c2 : Int} {a b a2 b2 : Bool} (h : cellref_meaning.f s 2 n c n2 c2 a b a2 b2 = some (s, 2, n, c, n2, c2, a, b, a2, b2)) : c = 0 ∧ c2 = 0 ∧ b = false ∧ b2 = false := by
  unfold cellref_meaning.f at h
  simp at h
  obtain ⟨h1, h2, h3, h4⟩ := h
  exact ⟨h1.symm, h2.symm, h3, h4⟩
theorem meaning3 {s : ByteArray} {n c n2 c2 : Int} {a b a2 b2 : Bool} (h : cellref_meaning.f s 3 n c n2 c2 a b a2 b2 = some (s, 3, n, c, n2, c2, a, b, a2, b2)) : n = 0 ∧ n2 = 0 ∧ a = false ∧ a2 = false := by
  unfold cellref_meaning.f at h
  simp at h
  obtain ⟨h1, h2, h3, h4⟩ := h
  exact ⟨h1.symm, h2.symm, h3, h4⟩
theorem meaning_area (s : ByteArray) (k n c n2 c2 : Int) (a b a2 b2 : Bool) (hk : k = 1 ∨ k = 2 ∨ k = 3) (h2 : k = 2 → c = 0 ∧ c2 = 0 ∧ b = false ∧ b2 = false) (h3 : k = 3 → n = 0 ∧ n2 = 0 ∧ a = false ∧ a2 = false) :
    cellref_meaning.f s k n c n2 c2 a b a2 b2 = some (s, k, n, c, n2, c2, a, b, a2, b2) := by
  unfold cellref_meaning.f
  obtain rfl | rfl | rfl := hk
  · rfl
  · obtain ⟨rfl, rfl, rfl, rfl⟩ := h2 rfl; rfl
  · obtain ⟨rfl, rfl, rfl, rfl⟩ := h3 rfl; rfl
theorem meaning_shift (s : ByteArray) (k n c n2 c2 : Int) (a b a2 b2 : Bool) (hk : k = 1 ∨ k = 2 ∨ k = 3) (h : cellref_meaning.f s k n c n2 c2 a b a2 b2 = some (s, k, n, c, n2, c2, a, b, a2, b2)) (d e : Int) :
    cellref_meaning.f s k (gon a n d) (gon b c e) (gon a2 n2 d) (gon b2 c2 e) a b a2 b2 = some (s, k, gon a n (dr k d), gon b c (dc k e), gon a2 n2 (dr k d), gon b2 c2 (dc k e), a, b, a2, b2) := by
  obtain rfl | rfl | rfl := hk
  · rfl
  · obtain ⟨rfl, rfl, rfl, rfl⟩ := meaning2 h; rfl
  · obtain ⟨rfl, rfl, rfl, rfl⟩ := meaning3 h; rfl
theorem sw_zero : sw (gon false 0 0) (gon false 0 0) false false = (0, 0, false, false) := rfl
theorem copied_area (s : ByteArray) (k n c n2 c2 : Int) (a b a2 b2 : Bool) (hk : k = 1 ∨ k = 2 ∨ k = 3) (hg : Good s k n c n2 c2 a b a2 b2) (d e : Int) (hd : -1000 ≤ d ∧ d ≤ 1000) (he : -1000 ≤ e ∧ e ≤ 1000)
    (p q : Int × Int × Bool × Bool) (hp : sw (gon a n (dr k d)) (gon a2 n2 (dr k d)) a a2 = p) (hq : sw (gon b c (dc k e)) (gon b2 c2 (dc k e)) b b2 = q) :
    cellref_meaning.f s k p.1 q.1 p.2.1 q.2.1 p.2.2.1 q.2.2.1 p.2.2.2 q.2.2.2 = some (s, k, p.1, q.1, p.2.1, q.2.1, p.2.2.1, q.2.2.1, p.2.2.2, q.2.2.2) ∧
    cellref_Copied.f 203 s k n c n2 c2 a b a2 b2 d e = if (perm p.1 && perm q.1 && perm p.2.1 && perm q.2.1) = true then some (s, k, p.1, q.1, p.2.1, q.2.1, p.2.2.1, q.2.2.1, p.2.2.2, q.2.2.2, 0) else some (⟨#[]⟩, 4, 0, 0, 0, 0, false, false, false, false, 0) := by
  have hm := hg.2.2.1
  have hM : cellref_meaning.f s k p.1 q.1 p.2.1 q.2.1 p.2.2.1 q.2.2.1 p.2.2.2 q.2.2.2 = some (s, k, p.1, q.1, p.2.1, q.2.1, p.2.2.1, q.2.2.1, p.2.2.2, q.2.2.2) := by
    refine meaning_area _ _ _ _ _ _ _ _ _ _ hk ?_ ?_
    · rintro rfl
      obtain ⟨rfl, rfl, rfl, rfl⟩ := meaning2 hm
      obtain rfl := hq
      exact ⟨rfl, rfl, rfl, rfl⟩
    · rintro rfl
      obtain ⟨rfl, rfl, rfl, rfl⟩ := meaning3 hm
      obtain rfl := hp
      exact ⟨rfl, rfl, rfl, rfl⟩
  refine ⟨hM, ?_⟩
  rw [copied_good s k n c n2 c2 a b a2 b2 hg d e hd he, meaning_shift s k n c n2 c2 a b a2 b2 hk hm]
  simp only [Option.bind_some]
  rw [ordered_eq _ _ _ _ _ _ _ _ _ _ (by omega)]
  simp only [Option.bind_some]
  rw [hp, hq, fitting_fix _ _ _ _ _ _ _ _ _ _ hM]
  split <;> rfl
theorem back_area (s : ByteArray) (k n c n2 c2 : Int) (a b a2 b2 : Bool) (hk : k = 1 ∨ k = 2 ∨ k = 3) (hg : Good s k n c n2 c2 a b a2 b2) (d e : Int) (hd : -1000 ≤ d ∧ d ≤ 1000) (he : -1000 ≤ e ∧ e ≤ 1000) :
    ∃ (s1 : ByteArray) (k1 n1 c1 n3 c3 : Int) (a1 b1 a3 b3 : Bool) (s5 : ByteArray) (k5 n5 c5 n7 c7 : Int) (a5 b5 a7 b7 : Bool), cellref_Copied.f 203 s k n c n2 c2 a b a2 b2 d e = some (s1, k1, n1, c1, n3, c3, a1, b1, a3, b3, 0) ∧ cellref_Copied.f 203 s1 k1 n1 c1 n3 c3 a1 b1 a3 b3 (-d) (-e) = some (s5, k5, n5, c5, n7, c7, a5, b5, a7, b7, 0) ∧
      ((k1 = 4 ∧ k5 = 4) ∨ (k1 ≠ 4 ∧ ((s5, k5, n5, c5, n7, c7, a5, b5, a7, b7) = (s, k, n, c, n2, c2, a, b, a2, b2) ∨ (1 ≤ k ∧ k5 = k ∧ ((a != a2) = true ∨ (b != b2) = true))))) := by
  obtain ⟨p, hp⟩ : ∃ p, sw (gon a n (dr k d)) (gon a2 n2 (dr k d)) a a2 = p := ⟨_, rfl⟩
  obtain ⟨q, hq⟩ : ∃ q, sw (gon b c (dc k e)) (gon b2 c2 (dc k e)) b b2 = q := ⟨_, rfl⟩
  obtain ⟨hM, hC⟩ := copied_area s k n c n2 c2 a b a2 b2 hk hg d e hd he p q hp hq
  by_cases hP : (perm p.1 && perm q.1 && perm p.2.1 && perm q.2.1) = true
  · rw [if_pos hP] at hC
    obtain ⟨p2, hp2⟩ : ∃ p2, sw (gon p.2.2.1 p.1 (-(dr k d))) (gon p.2.2.2 p.2.1 (-(dr k d))) p.2.2.1 p.2.2.2 = p2 := ⟨_, rfl⟩
    obtain ⟨q2, hq2⟩ : ∃ q2, sw (gon q.2.2.1 q.1 (-(dc k e))) (gon q.2.2.2 q.2.1 (-(dc k e))) q.2.2.1 q.2.2.2 = q2 := ⟨_, rfl⟩
    obtain ⟨g1, g2, g3, ⟨g4, g5, g6, g7⟩, g8⟩ := hg
    have h8 : n ≤ n2 ∧ c ≤ c2 := by
      rcases g8 with h | h
      · omega
      · exact h
    obtain ⟨x1, x2, x3, x4⟩ := pair n n2 (dr k d) a a2 g4 g6 h8.1 p hp p2 hp2
    obtain ⟨y1, y2, y3, y4⟩ := pair c c2 (dc k e) b b2 g5 g7 h8.2 q hq q2 hq2
    have hG2 : Good s k p.1 q.1 p.2.1 q.2.1 p.2.2.1 q.2.2.1 p.2.2.2 q.2.2.2 := by
      simp only [Bool.and_eq_true] at hP
      exact ⟨g1, g2, hM, ⟨hP.1.1.1, hP.1.1.2, hP.1.2, hP.2⟩, Or.inr ⟨x4, y4⟩⟩
    have n1 : dr k (-d) = -(dr k d) := by unfold dr; split <;> simp
    have n2' : dc k (-e) = -(dc k e) := by unfold dc; split <;> simp
    obtain ⟨_, hD⟩ := copied_area s k p.1 q.1 p.2.1 q.2.1 p.2.2.1 q.2.2.1 p.2.2.2 q.2.2.2 hk hG2 (-d) (-e) (by omega) (by omega) p2 q2 (by rw [n1]; exact hp2) (by rw [n2']; exact hq2)
    rw [if_pos (by simp only [x2, x3, y2, y3, Bool.and_self])] at hD
    refine ⟨_, _, _, _, _, _, _, _, _, _, _, _, _, _, _, _, _, _, _, _, hC, hD, Or.inr ⟨by omega, ?_⟩⟩
    rcases x1 with x1 | x1
    · rcases y1 with y1 | y1
      · exact Or.inl (by rw [x1, y1])
      · exact Or.inr ⟨by omega, rfl, Or.inr y1⟩
    · exact Or.inr ⟨by omega, rfl, Or.inl x1⟩
  · rw [if_neg hP] at hC
    exact ⟨_, _, _, _, _, _, _, _, _, _, _, _, _, _, _, _, _, _, _, _, hC, copied_bad (-d) (-e) (by omega) (by omega), Or.inl ⟨rfl, rfl⟩⟩
theorem meaning0 {s : ByteArray} {n c n2 c2 : Int} {a b a2 b2 : Bool} (h : cellref_meaning.f s 0 n c n2 c2 a b a2 b2 = some (s, 0, n, c, n2, c2, a, b, a2, b2)) : n2 = 0 ∧ c2 = 0 ∧ a2 = false ∧ b2 = false := by
  unfold cellref_meaning.f at h
  simp at h
  obtain ⟨h1, h2, h3, h4⟩ := h
  exact ⟨h1.symm, h2.symm, h3, h4⟩
theorem meaning4 {s : ByteArray} {n c n2 c2 : Int} {a b a2 b2 : Bool} (h : cellref_meaning.f s 4 n c n2 c2 a b a2 b2 = some (s, 4, n, c, n2, c2, a, b, a2, b2)) : s = ⟨#[]⟩ ∧ n = 0 ∧ c = 0 ∧ n2 = 0 ∧ c2 = 0 ∧ a = false ∧ b = false ∧ a2 = false ∧ b2 = false := by
  unfold cellref_meaning.f at h
  rw [if_neg (by decide), if_neg (by decide), if_neg (by decide), if_pos rfl] at h
  simp only [Option.some.injEq, Prod.mk.injEq] at h
  obtain ⟨h0, _, h1, h2, h3, h4, h5, h6, h7, h8⟩ := h
  exact ⟨h0.symm, h1.symm, h2.symm, h3.symm, h4.symm, h5.symm, h6.symm, h7.symm, h8.symm⟩
theorem copied_cell (s : ByteArray) (n c : Int) (a b : Bool) (hg : Good s 0 n c 0 0 a b false false) (d e : Int) (hd : -1000 ≤ d ∧ d ≤ 1000) (he : -1000 ≤ e ∧ e ≤ 1000) :
    cellref_Copied.f 203 s 0 n c 0 0 a b false false d e = if (perm (gon a n d) && perm (gon b c e) && perm 0 && perm 0) = true then some (s, 0, gon a n d, gon b c e, 0, 0, a, b, false, false, 0) else some (⟨#[]⟩, 4, 0, 0, 0, 0, false, false, false, false, 0) := by
  rw [copied_good s 0 n c 0 0 a b false false hg d e hd he, show cellref_meaning.f s 0 (gon a n d) (gon b c e) (gon false 0 d) (gon false 0 e) a b false false = some (s, 0, gon a n d, gon b c e, 0, 0, a, b, false, false) from rfl]
  simp only [Option.bind_some]
  rw [show cellref_ordered.f s 0 (gon a n d) (gon b c e) 0 0 a b false false = some (s, 0, gon a n d, gon b c e, 0, 0, a, b, false, false) from rfl]
  simp only [Option.bind_some]
  rw [fitting_fix _ _ _ _ _ _ _ _ _ _ rfl]
  split <;> rfl
theorem gon_back (a : Bool) (n d : Int) : gon a (gon a n d) (-d) = n := by
  unfold gon
  cases a
  · simp only [Bool.false_eq_true, if_false]; omega
  · rfl
theorem back_all (s : ByteArray) (k n c n2 c2 : Int) (a b a2 b2 : Bool) (hg : Good s k n c n2 c2 a b a2 b2) (d e : Int) (hd : -1000 ≤ d ∧ d ≤ 1000) (he : -1000 ≤ e ∧ e ≤ 1000) :
    ∃ (s1 : ByteArray) (k1 n1 c1 n3 c3 : Int) (a1 b1 a3 b3 : Bool) (s5 : ByteArray) (k5 n5 c5 n7 c7 : Int) (a5 b5 a7 b7 : Bool), cellref_Copied.f 203 s k n c n2 c2 a b a2 b2 d e = some (s1, k1, n1, c1, n3, c3, a1, b1, a3, b3, 0) ∧ cellref_Copied.f 203 s1 k1 n1 c1 n3 c3 a1 b1 a3 b3 (-d) (-e) = some (s5, k5, n5, c5, n7, c7, a5, b5, a7, b7, 0) ∧
      ((k1 = 4 ∧ k5 = 4) ∨ (k1 ≠ 4 ∧ ((s5, k5, n5, c5, n7, c7, a5, b5, a7, b7) = (s, k, n, c, n2, c2, a, b, a2, b2) ∨ (1 ≤ k ∧ k5 = k ∧ ((a != a2) = true ∨ (b != b2) = true))))) := by
  have hk := hg.1
  obtain h | h | h : k = 0 ∨ k = 4 ∨ (k = 1 ∨ k = 2 ∨ k = 3) := by omega
  · subst h
    obtain ⟨rfl, rfl, rfl, rfl⟩ := meaning0 hg.2.2.1
    have hC := copied_cell s n c a b hg d e hd he
    by_cases hP : (perm (gon a n d) && perm (gon b c e) && perm 0 && perm 0) = true
    · rw [if_pos hP] at hC
      have hG2 : Good s 0 (gon a n d) (gon b c e) 0 0 a b false false := by
        simp only [Bool.and_eq_true] at hP
        exact ⟨hg.1, hg.2.1, rfl, ⟨hP.1.1.1, hP.1.1.2, hP.1.2, hP.2⟩, Or.inl rfl⟩
      have hD := copied_cell s (gon a n d) (gon b c e) a b hG2 (-d) (-e) (by omega) (by omega)
      rw [gon_back, gon_back, if_pos (by simp only [hg.2.2.2.1.1, hg.2.2.2.1.2.1, Bool.and_self]; decide)] at hD
      exact ⟨_, _, _, _, _, _, _, _, _, _, _, _, _, _, _, _, _, _, _, _, hC, hD, Or.inr ⟨by decide, Or.inl rfl⟩⟩
    · rw [if_neg hP] at hC
      exact ⟨_, _, _, _, _, _, _, _, _, _, _, _, _, _, _, _, _, _, _, _, hC, copied_bad (-d) (-e) (by omega) (by omega), Or.inl ⟨rfl, rfl⟩⟩
  · subst h
    obtain ⟨rfl, rfl, rfl, rfl, rfl, rfl, rfl, rfl, rfl⟩ := meaning4 hg.2.2.1
    exact ⟨_, _, _, _, _, _, _, _, _, _, _, _, _, _, _, _, _, _, _, _, copied_bad d e hd he, copied_bad (-d) (-e) (by omega) (by omega), Or.inl ⟨rfl, rfl⟩⟩
  · exact back_area s k n c n2 c2 a b a2 b2 h hg d e hd he
theorem mod2001 (x : Int) : ∃ m : Int, chancerykeep2_mod.f x 2001 = some m ∧ 0 ≤ m ∧ m ≤ 2000 := by
  have h1 := Int.tmod_lt_of_pos x (show (0 : Int) < 2001 by decide)
  have h2 := Int.lt_tmod_of_pos x (show (0 : Int) < 2001 by decide)
  have hw : wrap64 (x.tmod 2001 + 2001) = x.tmod 2001 + 2001 := by unfold wrap64; omega
  have h3 := Int.tmod_lt_of_pos (x.tmod 2001 + 2001) (show (0 : Int) < 2001 by decide)
  have h4 : 0 ≤ (x.tmod 2001 + 2001).tmod 2001 := Int.tmod_nonneg _ (by omega)
  refine ⟨(x.tmod 2001 + 2001).tmod 2001, ?_, h4, by omega⟩
  unfold chancerykeep2_mod.f
  rw [if_neg (by decide), hw]
end Go.Proofs.YtefhcgnamfnkbaaDoor.Pure
