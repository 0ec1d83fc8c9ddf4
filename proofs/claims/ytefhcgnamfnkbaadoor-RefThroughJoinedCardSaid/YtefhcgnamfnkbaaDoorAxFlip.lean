/- Changes there, on and back (plain). -/
import Derived.Test.YtefhcgnamfnkbaaDoorAxChk
import Derived.Test.YtefhcgnamfnkbaaDoorAxHull
import Derived.Test.YtefhcgnamfnkbaaDoorAxUndo
import Derived.Test.YtefhcgnamfnkbaaDoorAxMono
namespace Go.Proofs.YtefhcgnamfnkbaaDoor.Pr
open Go.RowKit Go.Proofs.YtefhcgnamfnkbaaDoorW.PrintWords Go.Proofs.YtefhcgnamfnkbaaDoorW.PrintLast Go.Proofs.YtefhcgnamfnkbaaDoorW.PrintMore
set_option linter.unusedVariables false
set_option linter.unusedSimpArgs false

theorem img_k0 (n : Int) (m : List S127) (y : Int) : img (⟨0, n⟩ :: m) y = if y < n then some y else (img m (y - n)).map (· + n) := by simp [img]
theorem img_k1 (n : Int) (m : List S127) (y : Int) : img (⟨1, n⟩ :: m) y = (img m y).map (· + n) := by simp [img]
theorem img_k2 (n : Int) (m : List S127) (y : Int) : img (⟨2, n⟩ :: m) y = if y < n then none else img m (y - n) := by simp [img]
theorem flip_k0 (n : Int) (r : List S127) : flip (⟨0, n⟩ :: r) = ⟨0, n⟩ :: flip r := by simp [flip]
theorem flip_k1 (n : Int) (r : List S127) : flip (⟨1, n⟩ :: r) = ⟨2, n⟩ :: flip r := by simp [flip]
theorem flip_k2 (n : Int) (r : List S127) : flip (⟨2, n⟩ :: r) = ⟨1, n⟩ :: flip r := by simp [flip]
theorem img_flip : ∀ (l : List S127) (x v : Int), Vd l → 0 ≤ x → img l x = some v → img (flip l) v = some x
  | [], x, v, _, hx, h => by
    obtain rfl : x = v := Option.some.inj h
    rfl
  | ⟨k, n⟩ :: r, x, v, hv, hx, h => by
    obtain ⟨hk, hn⟩ := hv.head
    dsimp only at hk hn
    rcases hk with rfl | rfl | rfl
    · rw [img_k0] at h
      rw [flip_k0, img_k0]
      by_cases c1 : x < n
      · rw [if_pos c1] at h
        obtain rfl : x = v := Option.some.inj h
        rw [if_pos c1]
      · rw [if_neg c1] at h
        obtain ⟨z, hz, rfl⟩ := Option.map_eq_some_iff.1 h
        have h1 := img_nn r _ z hv.tail (by omega) hz
        have h2 := img_flip r _ z hv.tail (by omega) hz
        rw [if_neg (by omega), Int.add_sub_cancel, h2]
        show some (x - n + n) = some x
        rw [Int.sub_add_cancel]
    · rw [img_k1] at h
      rw [flip_k1, img_k2]
      obtain ⟨z, hz, rfl⟩ := Option.map_eq_some_iff.1 h
      have h1 := img_nn r _ z hv.tail hx hz
      have h2 := img_flip r _ z hv.tail hx hz
      rw [if_neg (by omega), Int.add_sub_cancel, h2]
    · rw [img_k2] at h
      rw [flip_k2, img_k1]
      by_cases c1 : x < n
      · rw [if_pos c1] at h; cases h
      · rw [if_neg c1] at h
        have h2 := img_flip r _ v hv.tail (by omega) h
        rw [h2]
        show some (x - n + n) = some x
        rw [Int.sub_add_cancel]
/-- Where nothing is removed, each row goes somewhere. -/
theorem img_total : ∀ (l : List S127) (x : Int), Vd l → (∀ s ∈ l, s.f0 ≠ 2) → 0 ≤ x → ∃ v, img l x = some v
  | [], x, _, _, hx => ⟨x, rfl⟩
  | ⟨k, n⟩ :: r, x, hv, hc, hx => by
    obtain ⟨hk, hn⟩ := hv.head
    have hc1 := fun s hs => hc s (List.mem_cons_of_mem _ hs)
    dsimp only at hk hn
    rcases hk with rfl | rfl | rfl
    · rw [img_k0]
      by_cases c1 : x < n
      · exact ⟨x, by rw [if_pos c1]⟩
      · obtain ⟨v, h⟩ := img_total r (x - n) hv.tail hc1 (by omega)
        exact ⟨v + n, by rw [if_neg c1, h]; rfl⟩
    · obtain ⟨v, h⟩ := img_total r x hv.tail hc1 hx
      exact ⟨v + n, by rw [img_k1, h]; rfl⟩
    · exact absurd rfl (hc ⟨2, n⟩ List.mem_cons_self)
/-- Where nothing is added, each row comes from somewhere. -/
theorem img_onto : ∀ (l : List S127) (y : Int), Vd l → (∀ s ∈ l, s.f0 ≠ 1) → 0 ≤ y → ∃ x, 0 ≤ x ∧ img l x = some y
  | [], y, _, _, hy => ⟨y, hy, rfl⟩
  | ⟨k, n⟩ :: r, y, hv, hc, hy => by
    obtain ⟨hk, hn⟩ := hv.head
    have hc1 := fun s hs => hc s (List.mem_cons_of_mem _ hs)
    dsimp only at hk hn
    rcases hk with rfl | rfl | rfl
    · by_cases c1 : y < n
      · exact ⟨y, hy, by rw [img_k0, if_pos c1]⟩
      · obtain ⟨x, hx, h⟩ := img_onto r (y - n) hv.tail hc1 (by omega)
        refine ⟨x + n, by omega, ?_⟩
        rw [img_k0, if_neg (by omega), Int.add_sub_cancel, h]
        show some (y - n + n) = some y
        rw [Int.sub_add_cancel]
    · exact absurd rfl (hc ⟨1, n⟩ List.mem_cons_self)
    · obtain ⟨x, hx, h⟩ := img_onto r y hv.tail hc1 hy
      refine ⟨x + n, by omega, ?_⟩
      rw [img_k2, if_neg (by omega), Int.add_sub_cancel, h]
theorem img_le : ∀ (l : List S127) (x v : Int), Vd l → 0 ≤ x → img l x = some v → v ≤ x + aft l
  | [], x, v, _, hx, h => by
    obtain rfl : x = v := Option.some.inj h
    show x ≤ x + 0
    omega
  | ⟨k, n⟩ :: r, x, v, hv, hx, h => by
    obtain ⟨hk, hn⟩ := hv.head
    have na := aft_nn hv.tail
    dsimp only at hk hn
    rcases hk with rfl | rfl | rfl
    · rw [img_k0] at h
      have e : aft (⟨0, n⟩ :: r) = n + aft r := by simp [aft]
      rw [e]
      by_cases c1 : x < n
      · rw [if_pos c1] at h
        obtain rfl : x = v := Option.some.inj h
        omega
      · rw [if_neg c1] at h
        obtain ⟨z, hz, rfl⟩ := Option.map_eq_some_iff.1 h
        have h1 := img_le r _ z hv.tail (by omega) hz
        omega
    · rw [img_k1] at h
      have e : aft (⟨1, n⟩ :: r) = n + aft r := by simp [aft]
      rw [e]
      obtain ⟨z, hz, rfl⟩ := Option.map_eq_some_iff.1 h
      have h1 := img_le r _ z hv.tail hx hz
      omega
    · rw [img_k2] at h
      have e : aft (⟨2, n⟩ :: r) = aft r := by simp [aft]
      rw [e]
      by_cases c1 : x < n
      · rw [if_pos c1] at h; cases h
      · rw [if_neg c1] at h
        have h1 := img_le r _ v hv.tail (by omega) h
        omega
/-- Where a row of the sheet goes. -/
def G (l : List S127) (x : Int) : Option Int := if 0 ≤ x then img l x else none
theorem G_is {l : List S127} {x : Int} (h : 0 ≤ x) : G l x = img l x := if_pos h
theorem G_some {l : List S127} {x v : Int} (h : G l x = some v) : 0 ≤ x ∧ img l x = some v := by
  unfold G at h
  by_cases hx : 0 ≤ x
  · rw [if_pos hx] at h; exact ⟨hx, h⟩
  · rw [if_neg hx] at h; cases h
theorem hit_det {g : Int → Option Int} {low high f l f' l' : Int} {b b' : Bool} (h : Hit g low high (f, l, b)) (h' : Hit g low high (f', l', b')) : b = b' ∧ (b = true → f = f' ∧ l = l') := by
  rcases h with ⟨hb, h⟩ | ⟨hb, p, q, h1, h2, h3, h4, h5, h6, h7⟩
  · rcases h' with ⟨hb', h'⟩ | ⟨hb', p', q', k1, k2, k3, k4, k5, k6, k7⟩
    · dsimp only at hb hb'
      exact ⟨by rw [hb, hb'], fun e => by rw [hb] at e; cases e⟩
    · have := h p' k1 (by omega)
      rw [k4] at this; cases this
  · rcases h' with ⟨hb', h'⟩ | ⟨hb', p', q', k1, k2, k3, k4, k5, k6, k7⟩
    · have := h' p h1 (by omega)
      rw [h4] at this; cases this
    · dsimp only at hb hb' h4 h5 k4 k5
      refine ⟨by rw [hb, hb'], fun _ => ?_⟩
      have e1 : p = p' := by
        rcases Int.lt_trichotomy p p' with a | a | a
        · have := k6 p h1 a; rw [h4] at this; cases this
        · exact a
        · have := h6 p' k1 a; rw [k4] at this; cases this
      have e2 : q = q' := by
        rcases Int.lt_trichotomy q q' with a | a | a
        · have := h7 q' a k3; rw [k5] at this; cases this
        · exact a
        · have := k7 q a h3; rw [h5] at this; cases this
      subst e1 e2
      rw [h4] at k4; rw [h5] at k5
      exact ⟨Option.some.inj k4, Option.some.inj k5⟩
theorem hit_ends {g : Int → Option Int} {low high f l A B : Int} {b : Bool} (h : Hit g low high (f, l, b)) (hlh : low ≤ high) (ha : g low = some A) (hb : g high = some B) : b = true ∧ f = A ∧ l = B := by
  refine ⟨?_, ?_⟩
  · rcases h with ⟨_, h⟩ | ⟨h, _⟩
    · have := h low (Int.le_refl _) hlh
      rw [ha] at this; cases this
    · exact h
  · have k : Hit g low high (A, B, true) := .inr ⟨rfl, low, high, Int.le_refl _, hlh, Int.le_refl _, ha, hb, fun x h1 h2 => by omega, fun x h1 h2 => by omega⟩
    have := hit_det k h
    exact ⟨(this.2 rfl).1.symm, (this.2 rfl).2.symm⟩
/-- Where what is hit lies. -/
theorem hit_in {P : List S127} {low high f l : Int} (vP : Vd P) (h : Hit (G P) low high (f, l, true)) : ∃ p q, 0 ≤ p ∧ low ≤ p ∧ p ≤ q ∧ q ≤ high ∧ img P p = some f ∧ img P q = some l ∧ f ≤ l ∧ ∀ x, low ≤ x → x ≤ high → 0 ≤ x → ∀ y, img P x = some y → f ≤ y ∧ y ≤ l := by
  rcases h with ⟨hb, h⟩ | ⟨hb, p, q, h1, h2, h3, h4, h5, h6, h7⟩
  · cases hb
  · obtain ⟨p0, e4⟩ := G_some h4
    obtain ⟨q0, e5⟩ := G_some h5
    dsimp only at e4 e5
    have hin : ∀ x, low ≤ x → x ≤ high → 0 ≤ x → ∀ y, img P x = some y → f ≤ y ∧ y ≤ l := by
      intro x a1 a2 a3 y hy
      constructor
      · rcases Int.lt_trichotomy x p with a | a | a
        · have := h6 x a1 a
          rw [G_is a3, hy] at this; cases this
        · subst a; rw [e4] at hy; have := Option.some.inj hy; omega
        · have := img_mono P p x f y vP p0 a e4 hy; omega
      · rcases Int.lt_trichotomy x q with a | a | a
        · have := img_mono P x q y l vP a3 a hy e5; omega
        · subst a; rw [e5] at hy; have := Option.some.inj hy; omega
        · have := h7 x a a2
          rw [G_is a3, hy] at this; cases this
    exact ⟨p, q, p0, h1, h2, h3, e4, e5, (hin q (by omega) h3 q0 l e5).1, hin⟩
theorem hit_comp {P Q R : List S127} {low high f l f2 l2 : Int} {b2 : Bool} (vP : Vd P) (vQ : Vd Q) (h0 : 0 ≤ low) (hc : ∀ x, 0 ≤ x → img R x = comp P Q x) (h : Hit (G P) low high (f, l, true)) (k : Hit (G Q) f l (f2, l2, b2))
    (on : ∀ y, f ≤ y → y ≤ l → ∃ x, 0 ≤ x ∧ img P x = some y) : Hit (G R) low high (f2, l2, b2) := by
  obtain ⟨p, q, p0, h1, h2, h3, h4, h5, hfl, hin⟩ := hit_in vP h
  have hR : ∀ x, low ≤ x → G R x = (img P x).bind (img Q) := fun x a => by rw [G_is (by omega), hc x (by omega)]; rfl
  have hno : ∀ x, low ≤ x → x ≤ high → (∀ y, img P x = some y → G Q y = none) → G R x = none := fun x a1 a2 a3 => by
    rw [hR x a1]
    cases e : img P x with
    | none => rfl
    | some y =>
      have := a3 y e
      rw [G_is (img_nn P x y vP (by omega) e)] at this
      exact this
  rcases k with ⟨hb, k⟩ | ⟨hb, p', q', k1, k2, k3, k4, k5, k6, k7⟩
  · refine .inl ⟨hb, fun x a1 a2 => hno x a1 a2 fun y hy => ?_⟩
    have := hin x a1 a2 (by omega) y hy
    exact k y this.1 this.2
  · obtain ⟨x1, a1, e1⟩ := on p' k1 (by omega)
    obtain ⟨x2, a2, e2⟩ := on q' (by omega) k3
    obtain ⟨z1, g1⟩ := G_some k4
    obtain ⟨z2, g2⟩ := G_some k5
    dsimp only at g1 g2
    have b1 : p ≤ x1 := by
      refine Int.not_lt.1 fun a => ?_
      have := img_mono P x1 p p' f vP a1 a e1 h4; omega
    have b2' : x2 ≤ q := by
      refine Int.not_lt.1 fun a => ?_
      have := img_mono P q x2 l q' vP (by omega) a h5 e2; omega
    have b3 : x1 ≤ x2 := by
      refine Int.not_lt.1 fun a => ?_
      have := img_mono P x2 x1 q' p' vP a2 a e2 e1; omega
    refine .inr ⟨hb, x1, x2, by omega, b3, by omega, ?_, ?_, fun x c1 c2 => hno x c1 (by omega) fun y hy => ?_, fun x c1 c2 => hno x (by omega) c2 fun y hy => ?_⟩
    · rw [hR x1 (by omega), e1]; exact g1
    · rw [hR x2 (by omega), e2]; exact g2
    · have d1 := hin x c1 (by omega) (by omega) y hy
      have d2 := img_mono P x x1 y p' vP (by omega) c2 hy e1
      exact k6 y d1.1 d2
    · have d1 := hin x (by omega) c2 (by omega) y hy
      have d2 := img_mono P x2 x q' y vP a2 c1 e2 hy
      exact k7 y d2 d1.2
theorem hit_miss {P Q R : List S127} {low high f l f2 l2 : Int} (h0 : 0 ≤ low) (hc : ∀ x, 0 ≤ x → img R x = comp P Q x) (h : Hit (G P) low high (f, l, false)) : Hit (G R) low high (f2, l2, false) := by
  rcases h with ⟨_, h⟩ | ⟨h, _⟩
  · refine .inl ⟨rfl, fun x a1 a2 => ?_⟩
    have := h x a1 a2
    rw [G_is (by omega)] at this
    rw [G_is (by omega), hc x (by omega)]
    unfold comp
    rw [this]; rfl
  · cases h
/-! ### Undo -/
theorem wl_zero (l : List S127) : wl l 0 0 = l := by unfold wl; rw [adds_neg 1 (by omega), adds_neg 2 (by omega)]; simp
theorem wl_cut (l : List S127) {c : Int} (h : 0 < c) : wl l 0 c = l ++ [⟨2, c⟩] := by unfold wl; rw [adds_neg 1 (by omega), adds_pos 2 h]; simp
theorem mend_cut (l : List S127) (c n : Int) : mend (l ++ [⟨2, c⟩]) n = l ++ [⟨2, c⟩] ++ [⟨0, n⟩] := by
  unfold mend
  rw [List.getLast?_concat]
  dsimp only
  rw [if_neg (by decide)]
theorem undo_flip : ∀ (r l : List S127) (c : Int) (p : Option Int), Vd r → (∀ s ∈ r, s.f0 ≠ 2) → Ord p r → (∀ s ∈ r, s.f1 ≤ 2147483647) → ((c = 0 ∧ p ≠ some 1 ∧ (p = none → l = [])) ∨ (0 < c ∧ p = some 1)) → (p = none ∨ p = some 0 ∨ p = some 1) → l.length + 2 * r.length + 3 ≤ 1099511627776 →
    ∃ l' c', undoN r l 0 c = some (l', 0, c') ∧ wl l' 0 c' = wl l 0 c ++ flip r ∧ l'.length ≤ l.length + 2 * r.length
  | [], l, c, p, hv, hc, ho, hm, hq, hp, hl => ⟨l, c, rfl, by simp [flip], by omega⟩
  | ⟨k, n⟩ :: r, l, c, p, hv, hc, ho, hm, hq, hp, hl => by
    obtain ⟨hk, hn⟩ := hv.head
    have hc1 := fun s hs => hc s (List.mem_cons_of_mem _ hs)
    have hm1 := fun s hs => hm s (List.mem_cons_of_mem _ hs)
    have hmn : n ≤ 2147483647 := hm ⟨k, n⟩ List.mem_cons_self
    obtain ⟨o1, o2⟩ := ho
    simp only [List.length_cons] at hl
    dsimp only at hk hn o1 o2
    rcases hk with rfl | rfl | rfl
    · have e : putN l 0 c 0 n = (wl l 0 c ++ [⟨0, n⟩], 0, 0) := by
        unfold putN
        rw [if_neg (by omega), if_neg (by decide), if_neg (by decide)]
        show (mend (wl l 0 c) n, (0 : Int), (0 : Int)) = _
        rcases hq with ⟨rfl, q1, q2⟩ | ⟨q1, q2⟩
        · rcases hp with hp | hp | hp
          · rw [q2 hp]; rfl
          · exact absurd (Or.inl hp) o1
          · exact absurd hp q1
        · rw [wl_cut l q1, mend_cut]
      have hwl : (wl l 0 c).length ≤ l.length + 1 := by
        rcases hq with ⟨rfl, _⟩ | ⟨q1, _⟩
        · rw [wl_zero]; omega
        · rw [wl_cut l q1]; simp
      obtain ⟨l', c', e1, e2, e3⟩ := undo_flip r (wl l 0 c ++ [⟨0, n⟩]) 0 (some 0) hv.tail hc1 o2 hm1 (.inl ⟨rfl, by decide, fun h => by cases h⟩) (.inr (.inl rfl)) (by simp only [List.length_append, List.length_singleton]; omega)
      refine ⟨l', c', ?_, ?_, ?_⟩
      · simp only [undoN]
        rw [if_pos (by omega), if_pos trivial, e]
        exact e1
      · rw [e2, wl_zero, flip_k0]; simp
      · simp only [List.length_append, List.length_singleton] at e3
        simp only [List.length_cons]; omega
    · have hc0 : c = 0 := by
        rcases hq with ⟨q, _⟩ | ⟨_, q⟩
        · exact q
        · exact absurd (Or.inl q) o1
      subst hc0
      have e : putN l 0 0 2 n = (l, 0, n) := by
        unfold putN
        rw [if_neg (by omega), if_neg (by decide), if_pos rfl]
        rw [show wrap64 (0 + n) = n from by unfold wrap64; omega]
      obtain ⟨l', c', e1, e2, e3⟩ := undo_flip r l n (some 1) hv.tail hc1 o2 hm1 (.inr ⟨by omega, rfl⟩) (.inr (.inr rfl)) (by omega)
      refine ⟨l', c', ?_, ?_, ?_⟩
      · simp only [undoN]
        rw [if_pos (by omega), if_neg (by decide), if_pos trivial, e]
        exact e1
      · rw [e2, wl_zero, wl_cut l (by omega), flip_k1]; simp
      · simp only [List.length_cons]; omega
    · exact absurd rfl (hc ⟨2, n⟩ List.mem_cons_self)
theorem flip_vd : ∀ {l : List S127}, Vd l → Vd (flip l)
  | [], h => h
  | ⟨k, n⟩ :: r, h => by
    intro t ht
    simp only [flip] at ht
    rcases List.mem_cons.1 ht with rfl | ht
    · refine ⟨?_, h.head.2⟩
      dsimp only
      split
      · exact .inl rfl
      · split
        · exact .inr (.inr rfl)
        · exact .inr (.inl rfl)
    · exact flip_vd h.tail t ht
theorem flip_le : ∀ {l : List S127} {N : Int}, (∀ s ∈ l, s.f1 ≤ N) → ∀ s ∈ flip l, s.f1 ≤ N
  | [], N, h => h
  | ⟨k, n⟩ :: r, N, h => by
    intro t ht
    simp only [flip] at ht
    rcases List.mem_cons.1 ht with rfl | ht
    · exact h ⟨k, n⟩ List.mem_cons_self
    · exact flip_le (fun s hs => h s (List.mem_cons_of_mem _ hs)) t ht
theorem flip_len : ∀ (l : List S127), (flip l).length = l.length
  | [] => rfl
  | s :: r => by simp only [flip, List.length_cons, flip_len r]
theorem flip_bef : ∀ {l : List S127}, Vd l → bef (flip l) = aft l ∧ aft (flip l) = bef l
  | [], _ => ⟨rfl, rfl⟩
  | ⟨k, n⟩ :: r, h => by
    obtain ⟨h1, h2⟩ := flip_bef h.tail
    have hk := h.head.1
    dsimp only at hk
    rcases hk with rfl | rfl | rfl
    · rw [flip_k0]; simp [bef, aft, h1, h2]
    · rw [flip_k1]; simp [bef, aft, h1, h2]
    · rw [flip_k2]; simp [bef, aft, h1, h2]
def flipK (k : Int) : Int := if k = 0 then 0 else if k = 1 then 2 else 1
theorem flip_ord : ∀ (l : List S127) (p q : Option Int), Vd l → (∀ s ∈ l, s.f0 ≠ 2) → Ord p l → ((p = none ∧ q = none) ∨ (p = some 0 ∧ q = some 0) ∨ (p = some 1 ∧ q = some 2)) → Ord q (flip l)
  | [], p, q, _, _, _, _ => trivial
  | ⟨k, n⟩ :: r, p, q, hv, hc, ho, hq => by
    obtain ⟨hk, hn⟩ := hv.head
    have hc1 := fun s hs => hc s (List.mem_cons_of_mem _ hs)
    obtain ⟨o1, o2⟩ := ho
    dsimp only at hk hn o1 o2
    rcases hk with rfl | rfl | rfl
    · rw [flip_k0]
      refine ⟨?_, flip_ord r _ _ hv.tail hc1 o2 (.inr (.inl ⟨rfl, rfl⟩))⟩
      dsimp only
      rcases hq with ⟨rfl, rfl⟩ | ⟨rfl, rfl⟩ | ⟨rfl, rfl⟩
      · simp
      · exact absurd (Or.inl rfl) o1
      · simp
    · rw [flip_k1]
      refine ⟨?_, flip_ord r _ _ hv.tail hc1 o2 (.inr (.inr ⟨rfl, rfl⟩))⟩
      dsimp only
      rcases hq with ⟨rfl, rfl⟩ | ⟨rfl, rfl⟩ | ⟨rfl, rfl⟩
      · simp
      · simp
      · exact absurd (Or.inl rfl) o1
    · exact absurd rfl (hc ⟨2, n⟩ List.mem_cons_self)
/-- What Undo answers where nothing is removed. -/
theorem undo_is (n : Nat) (la : List S127) (hn : 4 * la.length + 1 ≤ n) (hl : 2 * la.length + 6 ≤ 1099511627776) (ca : chk none 0 0 la = 0) (hc : ∀ s ∈ la, s.f0 ≠ 2) : undoF n la = some (flip la, 0) ∧ axis_Check.f n (flip la) = some 0 := by
  obtain ⟨va, na, oa, ba, aa⟩ := (chk_ok la none 0 0 (by decide) (by decide) (by decide) (by decide)).1 ca
  obtain ⟨l', c', e1, e2, e3⟩ := undo_flip la [] 0 none va hc oa na (.inl ⟨rfl, by decide, fun _ => rfl⟩) (.inl rfl) (by simp only [List.length_nil]; omega)
  rw [wl_zero, List.nil_append] at e2
  have fb := flip_bef va
  have cf : chk none 0 0 (flip la) = 0 := (chk_ok (flip la) none 0 0 (by decide) (by decide) (by decide) (by decide)).2 ⟨flip_vd va, flip_le na, flip_ord la none none va hc oa (.inl ⟨rfl, rfl⟩), by rw [fb.1]; exact aa, by rw [fb.2]; exact ba⟩
  have k1 : axis_Check.f n la = some 0 := by rw [check_eq la (by omega) n hn, ca]
  have k2 : axis_Check.f n (flip la) = some 0 := by rw [check_eq (flip la) (by rw [flip_len]; omega) n (by rw [flip_len]; omega), cf]
  refine ⟨?_, k2⟩
  have e2' : l' ++ adds 1 0 ++ adds 2 c' = flip la := e2
  simp only [List.length_nil] at e3
  unfold undoF
  rw [k1, Option.bind_some, if_pos rfl, e1, Option.bind_some]
  dsimp only
  rw [if_pos (by omega), e2', k2, Option.bind_some, if_pos rfl, if_pos rfl]
end Go.Proofs.YtefhcgnamfnkbaaDoor.Pr
