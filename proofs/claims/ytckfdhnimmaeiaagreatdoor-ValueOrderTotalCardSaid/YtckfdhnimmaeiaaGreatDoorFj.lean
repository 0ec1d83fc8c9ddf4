/- The order of values in plain Lean; what value.Order answers (printed by wip/tools/mkkeys.py). -/
import Derived.Test.YtckfdhnimmaeiaaGreatDoorFi
namespace Go.Proofs.YtckfdhnimmaeiaaGreatDoor.Pr
open Go.RowKit Go.Proofs.YtckfdhnimmaeiaaGreatDoorW.PrintWords Go.Proofs.YtckfdhnimmaeiaaGreatDoorW.PrintLast Go.Proofs.YtckfdhnimmaeiaaGreatDoorW.PrintMore
set_option linter.unusedVariables false
set_option linter.unusedSimpArgs false
/-- A way to compare: one order, in which different things can be alike. -/
structure Cmp {α : Type} (f : α → α → Int) : Prop where
  tri : ∀ a b, Tri (f a b)
  anti : ∀ a b, f b a = -f a b
  le : ∀ a b c, f a b ≤ 0 → f b c ≤ 0 → f a c ≤ 0
theorem Cmp.ge {α : Type} {f : α → α → Int} (h : Cmp f) (a b c : α) (h1 : 0 ≤ f a b) (h2 : 0 ≤ f b c) : 0 ≤ f a c := by
  have e1 := h.anti a b
  have e2 := h.anti b c
  have e3 := h.anti a c
  have := h.le c b a (by omega) (by omega)
  omega
theorem Cmp.lt {α : Type} {f : α → α → Int} (h : Cmp f) (a b c : α) (h1 : f a b < 0) (h2 : f b c ≤ 0) : f a c < 0 := by
  have h3 := h.le a b c (by omega) h2
  have e1 := h.anti a b
  have e3 := h.anti a c
  by_cases h0 : f a c = 0
  · have := h.le b c a h2 (by omega)
    omega
  · omega
theorem Cmp.lt2 {α : Type} {f : α → α → Int} (h : Cmp f) (a b c : α) (h1 : f a b ≤ 0) (h2 : f b c < 0) : f a c < 0 := by
  have h3 := h.le a b c h1 (by omega)
  have e1 := h.anti a b
  have e2 := h.anti b c
  have e3 := h.anti a c
  by_cases h0 : f a c = 0
  · have := h.le c a b (by omega) h1
    omega
  · omega
theorem orI_or {x y : Int} (hx : Tri x) (hy : Tri y) : Tri (orI x y) := by
  unfold orI; split <;> assumption
theorem orI_zero {x y : Int} (h : orI x y = 0) : x = 0 ∧ y = 0 := by
  unfold orI at h; split at h
  · exact ⟨‹_›, h⟩
  · exact absurd h ‹_›
theorem Cmp.or {α : Type} {f g : α → α → Int} (hf : Cmp f) (hg : Cmp g) : Cmp (fun a b => orI (f a b) (g a b)) := by
  refine ⟨fun a b => orI_or (hf.tri a b) (hg.tri a b), fun a b => ?_, fun a b c h1 h2 => ?_⟩
  · have e1 := hf.anti a b
    have e2 := hg.anti a b
    simp only [orI]
    by_cases h0 : f a b = 0
    · rw [if_pos h0, if_pos (by omega), e2]
    · rw [if_neg h0, if_neg (by omega), e1]
  · simp only [orI] at h1 h2 ⊢
    by_cases h3 : f a b = 0
    · rw [if_pos h3] at h1
      by_cases h4 : f b c = 0
      · rw [if_pos h4] at h2
        have e1 := hf.le a b c (by omega) (by omega)
        have e2 := hf.ge a b c (by omega) (by omega)
        rw [if_pos (by omega)]
        exact hg.le a b c h1 h2
      · rw [if_neg h4] at h2
        have := hf.lt2 a b c (by omega) (by omega)
        rw [if_neg (by omega)]
        omega
    · rw [if_neg h3] at h1
      have h5 : f b c ≤ 0 := by
        by_cases h4 : f b c = 0
        · omega
        · rw [if_neg h4] at h2; exact h2
      have := hf.lt a b c (by omega) h5
      rw [if_neg (by omega)]
      omega
theorem Cmp.map {α β : Type} {f : α → α → Int} (h : Cmp f) (m : β → α) : Cmp (fun a b => f (m a) (m b)) :=
  ⟨fun a b => h.tri _ _, fun a b => h.anti _ _, fun a b c => h.le _ _ _⟩
theorem cmpI_cmp : Cmp cmpI := by
  refine ⟨fun a b => ?_, fun a b => ?_, fun a b c => ?_⟩
  · unfold cmpI Tri; split
    · exact .inl rfl
    · split
      · exact .inr (.inr rfl)
      · exact .inr (.inl rfl)
  · unfold cmpI; (repeat' split) <;> omega
  · unfold cmpI; (repeat' split) <;> omega
theorem cmpI_zero {a b : Int} (h : cmpI a b = 0) : a = b := by
  unfold cmpI at h; split at h
  · cases h
  · split at h
    · cases h
    · omega
theorem flag_cmp : Cmp (fun a b => flagF a - flagF b) := by
  refine ⟨fun a b => ?_, fun a b => ?_, fun a b c => ?_⟩
  · cases a <;> cases b <;> simp [flagF, Tri]
  · cases a <;> cases b <;> simp [flagF]
  · cases a <;> cases b <;> cases c <;> simp [flagF]
theorem flag_zero {a b : Bool} (h : flagF a - flagF b = 0) : a = b := by
  cases a <;> cases b <;> first | rfl | (exfalso; revert h; decide)
/-- Lists of letters. -/
def lc : List UInt8 → List UInt8 → Int
  | [], [] => 0
  | [], _ :: _ => -1
  | _ :: _, [] => 1
  | a :: x, b :: y => if a.toNat < b.toNat then -1 else if b.toNat < a.toNat then 1 else lc x y
theorem lc_cons (a b : UInt8) (x y : List UInt8) : lc (a :: x) (b :: y) = if a.toNat < b.toNat then -1 else if b.toNat < a.toNat then 1 else lc x y := by rw [lc]
theorem lc_tri : ∀ x y, Tri (lc x y)
  | [], [] => .inr (.inl rfl)
  | [], _ :: _ => .inl rfl
  | _ :: _, [] => .inr (.inr rfl)
  | a :: x, b :: y => by
    rw [lc_cons]; split
    · exact .inl rfl
    · split
      · exact .inr (.inr rfl)
      · exact lc_tri x y
theorem lc_anti : ∀ x y, lc y x = -lc x y
  | [], [] => rfl
  | [], _ :: _ => rfl
  | _ :: _, [] => rfl
  | a :: x, b :: y => by
    rw [lc_cons, lc_cons]
    by_cases h1 : a.toNat < b.toNat
    · have h2 : ¬ b.toNat < a.toNat := by omega
      simp [h1, h2]
    · by_cases h2 : b.toNat < a.toNat
      · simp [h1, h2]
      · have := lc_anti x y
        simp [h1, h2, this]
theorem lc_le : ∀ x y z, lc x y ≤ 0 → lc y z ≤ 0 → lc x z ≤ 0
  | [], _, [] => fun _ _ => by decide
  | [], _, _ :: _ => fun _ _ => by unfold lc; decide
  | _ :: _, [], _ => fun h _ => by unfold lc at h; exact absurd h (by decide)
  | _ :: _, _ :: _, [] => fun _ h => by unfold lc at h; exact absurd h (by decide)
  | a :: x, b :: y, c :: z => fun h1 h2 => by
    rw [lc_cons] at h1 h2 ⊢
    by_cases e1 : a.toNat < b.toNat
    · by_cases e2 : c.toNat < b.toNat
      · rw [if_neg (by omega), if_pos e2] at h2
        exact absurd h2 (by decide)
      · rw [if_pos (by omega)]; decide
    · rw [if_neg e1] at h1
      by_cases e3 : b.toNat < a.toNat
      · rw [if_pos e3] at h1; exact absurd h1 (by decide)
      · rw [if_neg e3] at h1
        by_cases e2 : b.toNat < c.toNat
        · rw [if_pos (by omega)]; decide
        · rw [if_neg e2] at h2
          by_cases e4 : c.toNat < b.toNat
          · rw [if_pos e4] at h2; exact absurd h2 (by decide)
          · rw [if_neg e4] at h2
            rw [if_neg (by omega), if_neg (by omega)]
            exact lc_le x y z h1 h2
theorem lc_zero : ∀ x y, lc x y = 0 → x = y
  | [], [] => fun _ => rfl
  | [], _ :: _ => fun h => by unfold lc at h; cases h
  | _ :: _, [] => fun h => by unfold lc at h; cases h
  | a :: x, b :: y => fun h => by
    rw [lc_cons] at h
    by_cases h1 : a.toNat < b.toNat
    · rw [if_pos h1] at h; cases h
    · rw [if_neg h1] at h
      by_cases h2 : b.toNat < a.toNat
      · rw [if_pos h2] at h; cases h
      · rw [if_neg h2] at h
        rw [lc_zero x y h, UInt8.toNat_inj.1 (show a.toNat = b.toNat by omega)]
theorem lc_self : ∀ x, lc x x = 0
  | [] => rfl
  | a :: x => by rw [lc_cons, if_neg (by omega), if_neg (by omega)]; exact lc_self x
theorem less_lc : ∀ x y, Op.bytesLess x y = decide (lc x y = -1)
  | [], [] => by simp [Op.bytesLess, lc]
  | [], _ :: _ => by simp [Op.bytesLess, lc]
  | _ :: _, [] => by simp [Op.bytesLess, lc]
  | a :: x, b :: y => by
    rw [Op.bytesLess, less_lc x y, lc_cons]
    by_cases h1 : a.toNat < b.toNat
    · rw [if_pos h1]
      have : decide (a < b) = true := decide_eq_true (UInt8.lt_iff_toNat_lt.2 h1)
      simp [this]
    · rw [if_neg h1]
      have e1 : decide (a < b) = false := decide_eq_false (fun h => h1 (UInt8.lt_iff_toNat_lt.1 h))
      by_cases h2 : b.toNat < a.toNat
      · rw [if_pos h2]
        have e2 : (a == b) = false := beq_eq_false_iff_ne.2 (fun h => by rw [h] at h2; omega)
        simp [e1, e2]
      · rw [if_neg h2]
        have e2 : (a == b) = true := beq_iff_eq.2 (UInt8.toNat_inj.1 (by omega))
        simp [e1, e2]
theorem cmpS_lc (x y : ByteArray) : cmpS x y = lc x.toList y.toList := by
  unfold cmpS
  rw [less_lc]
  rcases lc_tri x.toList y.toList with h | h | h
  · rw [h]; rfl
  · rw [h, lc_zero _ _ h]
    simp
  · rw [h]
    have : (x.toList == y.toList) = false := beq_eq_false_iff_ne.2 (fun e => by rw [e, lc_self] at h; cases h)
    rw [this]; rfl
theorem cmpS_cmp : Cmp cmpS := by
  refine ⟨fun a b => ?_, fun a b => ?_, fun a b c => ?_⟩
  · rw [cmpS_lc]; exact lc_tri _ _
  · rw [cmpS_lc, cmpS_lc]; exact lc_anti _ _
  · rw [cmpS_lc, cmpS_lc, cmpS_lc]; exact lc_le _ _ _
theorem cmpS_zero {a b : ByteArray} (h : cmpS a b = 0) : a = b := by
  rw [cmpS_lc] at h
  have h2 := lc_zero _ _ h
  rw [ByteArray.toList_eq, ByteArray.toList_eq] at h2
  obtain ⟨x⟩ := a
  obtain ⟨y⟩ := b
  congr 1
  exact Array.toList_inj.1 h2
abbrev Ql := {x : Pure.Q // Pure.qLow x}
theorem mul_trans {a b c : Int} {p q r : Nat} (hp : 0 < p) (hq : 0 < q) (hr : 0 < r) (h1 : a * (q : Int) ≤ b * (p : Int)) (h2 : b * (r : Int) ≤ c * (q : Int)) : a * (r : Int) ≤ c * (p : Int) := by
  have k1 := Int.mul_le_mul_of_nonneg_right h1 (show (0 : Int) ≤ (r : Int) by omega)
  have k2 := Int.mul_le_mul_of_nonneg_right h2 (show (0 : Int) ≤ (p : Int) by omega)
  refine Int.le_of_mul_le_mul_right (a := (q : Int)) ?_ (by omega)
  have e1 : a * (q : Int) * (r : Int) = a * (r : Int) * (q : Int) := Int.mul_right_comm _ _ _
  have e2 : b * (p : Int) * (r : Int) = b * (r : Int) * (p : Int) := Int.mul_right_comm _ _ _
  have e3 : c * (q : Int) * (p : Int) = c * (p : Int) * (q : Int) := Int.mul_right_comm _ _ _
  omega
theorem qcmp_le (x y : Pure.Q) : Pure.qcmp x y ≤ 0 ↔ x.1 * (y.2 : Int) ≤ y.1 * (x.2 : Int) := by
  have h := Pure.qcmp_neg x y
  unfold Pure.qcmp at h ⊢
  by_cases e : x.1 * (y.2 : Int) = y.1 * (x.2 : Int)
  · rw [if_pos e]; omega
  · rw [if_neg e] at h ⊢
    by_cases e2 : x.1 * (y.2 : Int) < y.1 * (x.2 : Int)
    · rw [if_pos e2]; omega
    · rw [if_neg e2]; omega
theorem qcmp_cmp : Cmp (fun a b : Ql => Pure.qcmp a.1 b.1) :=
  ⟨fun a b => Pure.qcmp_vals a.1 b.1, fun a b => Pure.qcmp_swap a.1 b.1, fun a b c h1 h2 => (qcmp_le _ _).2 (mul_trans a.2.1 b.2.1 c.2.1 ((qcmp_le _ _).1 h1) ((qcmp_le _ _).1 h2))⟩
/-- What a value is compared by. -/
structure Ky where
  q : Ql
  s : ByteArray
  b : Bool
  c : Int
def cmpK (k : Int) (u v : Ky) : Int := if k = 1 then Pure.qcmp u.q.1 v.q.1 else if k = 2 then cmpS (lowF u.s) (lowF v.s) else if k = 3 then flagF u.b - flagF v.b else cmpI u.c v.c
def inK (k : Int) (u v : Ky) : Int := if k = 0 then 0 else orI (cmpK k u v) (cmpS u.s v.s)
theorem cmpK_cmp (k : Int) : Cmp (cmpK k) := by
  unfold cmpK
  by_cases h1 : k = 1
  · simp only [if_pos h1]; exact qcmp_cmp.map Ky.q
  by_cases h2 : k = 2
  · simp only [if_neg h1, if_pos h2]; exact cmpS_cmp.map (fun u : Ky => lowF u.s)
  by_cases h3 : k = 3
  · simp only [if_neg h1, if_neg h2, if_pos h3]; exact flag_cmp.map Ky.b
  · simp only [if_neg h1, if_neg h2, if_neg h3]; exact cmpI_cmp.map Ky.c
theorem inK_cmp (k : Int) : Cmp (inK k) := by
  unfold inK
  by_cases h : k = 0
  · simp only [if_pos h]; exact ⟨fun _ _ => .inr (.inl rfl), fun _ _ => rfl, fun _ _ _ _ _ => Int.le_refl _⟩
  · simp only [if_neg h]; exact (cmpK_cmp k).or (cmpS_cmp.map Ky.s)
def ordK (k kz : Int) (u v : Ky) : Int := if k = kz then inK k u v else cmpI (rankF k) (rankF kz)
theorem five {k : Int} (h0 : 0 ≤ k) (h4 : k ≤ 4) : k = 0 ∨ k = 1 ∨ k = 2 ∨ k = 3 ∨ k = 4 := by omega
theorem rank_inj {k kz : Int} (h0 : 0 ≤ k) (h4 : k ≤ 4) (z0 : 0 ≤ kz) (z4 : kz ≤ 4) (h : rankF k = rankF kz) : k = kz := by
  rcases five h0 h4 with rfl | rfl | rfl | rfl | rfl <;> rcases five z0 z4 with rfl | rfl | rfl | rfl | rfl <;> first | rfl | (exfalso; revert h; decide)
structure Vk where
  k : Int
  lo : 0 ≤ k
  hi : k ≤ 4
  y : Ky
theorem ordK_cmp : Cmp (fun a b : Vk => ordK a.k b.k a.y b.y) := by
  refine ⟨fun a b => ?_, fun a b => ?_, fun a b c h1 h2 => ?_⟩
  · simp only [ordK]; split
    · exact (inK_cmp _).tri _ _
    · exact cmpI_cmp.tri _ _
  · simp only [ordK]
    by_cases h : a.k = b.k
    · rw [if_pos h, if_pos h.symm, h]; exact (inK_cmp _).anti _ _
    · rw [if_neg h, if_neg (fun e => h e.symm)]; exact cmpI_cmp.anti _ _
  · simp only [ordK] at h1 h2 ⊢
    by_cases e1 : a.k = b.k
    · rw [if_pos e1] at h1
      by_cases e2 : b.k = c.k
      · rw [if_pos e2] at h2
        rw [if_pos (e1.trans e2)]
        rw [← e1] at h2
        exact (inK_cmp _).le _ _ _ h1 h2
      · rw [if_neg e2] at h2
        rw [if_neg (fun e => e2 (e1.symm.trans e)), e1]
        exact h2
    · rw [if_neg e1] at h1
      by_cases e2 : b.k = c.k
      · rw [if_neg (fun e => e1 (e.trans e2.symm)), ← e2]
        exact h1
      · rw [if_neg e2] at h2
        by_cases e3 : a.k = c.k
        · exfalso
          rw [← e3] at h2
          have h3 := cmpI_cmp.anti (rankF a.k) (rankF b.k)
          exact e1 (rank_inj a.lo a.hi b.lo b.hi (cmpI_zero (by omega)))
        · rw [if_neg e3]
          exact cmpI_cmp.le _ _ _ h1 h2
open Classical in
/-- The number that two texts stand for. -/
noncomputable def valQ (t o : ByteArray) : Ql := if h : ∃ x : Pure.Q, Pure.qLow x ∧ t = Pure.nt x ∧ o = Pure.dt x then ⟨Classical.choose h, (Classical.choose_spec h).1⟩ else ⟨(0, 1), Nat.one_pos, rfl⟩
theorem valQ_of {t o : ByteArray} (h : Nm t o) : t = Pure.nt (valQ t o).1 ∧ o = Pure.dt (valQ t o).1 ∧ Pure.Fit (valQ t o).1 := by
  obtain ⟨x, x1, x2, x3, x4⟩ := h
  have h : ∃ x : Pure.Q, Pure.qLow x ∧ t = Pure.nt x ∧ o = Pure.dt x := ⟨x, x1, x3, x4⟩
  unfold valQ
  rw [dif_pos h]
  obtain ⟨y1, y2, y3⟩ := Classical.choose_spec h
  refine ⟨y2, y3, ?_⟩
  have : Classical.choose h = x := Pure.nt_inj (y2.symm.trans x3) (y3.symm.trans x4)
  show Pure.Fit (Classical.choose h)
  rw [this]; exact x2
noncomputable def ky (t o s : ByteArray) (b : Bool) (c : Int) : Ky := ⟨valQ t o, s, b, c⟩
/-- What is known of a value that value.Check lets pass. -/
structure Good (k : Int) (t o s : ByteArray) (b : Bool) (c r q : Int) (p : Option Addr) (n p0 : Nat) : Prop where
  ck : ∀ w, Wd w → Calls Tryz.prog 10 #[.agg #[.int .i64 k, .string t, .string o, .string s, .bool b, .int .i64 c, .int .i64 r, .int .i64 q, .slice p n p0]] w fun x w' => x = .returned (.int .i64 0) ∧ Below w.heap.size w w'
  ok : Ok (Nm t o) k t o s b c r q n
theorem chk_good (k : Int) (t o s : ByteArray) (b : Bool) (c r q : Int) (p : Option Addr) (n p0 : Nat) (ht : t.size ≤ maxLen) (ho : o.size ≤ maxLen) (hs : s.size ≤ maxLen) : Chk (Good k t o s b c r q p n p0) k t o s b c r q p n p0 := by
  by_cases h5 : k = 5
  · subst h5
    exact .inl ⟨rfl, fun w hW hI => check_arr t o s b c r q p n p0 w hW hI⟩
  · obtain ⟨e, h1, h2⟩ := check_flat (Nm t o) k t o s b c r q p n p0 h5 (check_frac t o ht ho) hs
    exact .inr ⟨h5, e, h1, fun he => ⟨by rw [he] at h1; exact h1, h2 he⟩⟩
theorem ord_calls (k : Int) (t o s : ByteArray) (b : Bool) (c r q : Int) (p : Option Addr) (n p0 : Nat) (kz : Int) (tz oz sz : ByteArray) (bz : Bool) (cz rz qz : Int) (pz : Option Addr) (nz p0z : Nat) (A : Good k t o s b c r q p n p0) (Z : Good kz tz oz sz bz cz rz qz pz nz p0z) : Ord k t o s b c r q p n p0 kz tz oz sz bz cz rz qz pz nz p0z (ordK k kz (ky t o s b c) (ky tz oz sz bz cz)) := by
  intro w hW
  have hbo := fun w hW => both_calls k t o s b c r q p n p0 kz tz oz sz bz cz rz qz pz nz p0z A.ok.hi Z.ok.hi A.ck Z.ck w hW
  by_cases hk : k = kz
  · subst hk
    unfold ordK inK
    rw [if_pos rfl]
    by_cases h0 : k = 0
    · subst h0
      rw [if_pos rfl]
      exact order_zero t o s b c r q p n p0 tz oz sz bz cz rz qz pz nz p0z hbo w hW
    · rw [if_neg h0]
      refine order_same k t o s b c r q p n p0 tz oz sz bz cz rz qz pz nz p0z h0 (cmpK k (ky t o s b c) (ky tz oz sz bz cz)) (fun w hW => ?_) hbo w hW
      clear hbo
      have hA := A.ok
      have hZ := Z.ok
      clear A Z
      rcases five hA.lo hA.hi with rfl | rfl | rfl | rfl | rfl
      · exact absurd rfl h0
      · obtain ⟨a1, a2, a3⟩ := valQ_of (hA.num rfl)
        obtain ⟨z1, z2, z3⟩ := valQ_of (hZ.num rfl)
        obtain ⟨K, hK⟩ := Pure.compare_num (valQ t o).1 (valQ tz oz).1 (valQ t o).2 (valQ tz oz).2 a3 z3
        have h := hK K (Nat.le_refl _)
        rw [← a1, ← a2, ← z1, ← z2] at h
        exact compared_1 t o s b c r q p n p0 tz oz sz bz cz rz qz pz nz p0z K _ 0 h w hW.gl
      · exact compared_2 t o s b c r q p n p0 tz oz sz bz cz rz qz pz nz p0z (hA.txt rfl) (hZ.txt rfl) w
      · exact compared_3 t o s b c r q p n p0 tz oz sz bz cz rz qz pz nz p0z w
      · exact compared_4 t o s b c r q p n p0 tz oz sz bz cz rz qz pz nz p0z w
  · unfold ordK
    rw [if_neg hk]
    exact order_diff k t o s b c r q p n p0 kz tz oz sz bz cz rz qz pz nz p0z A.ok.lo A.ok.hi Z.ok.lo Z.ok.hi hk hbo w hW
theorem eq_calls (k : Int) (t o s : ByteArray) (b : Bool) (c r q : Int) (p : Option Addr) (n p0 : Nat) (kz : Int) (tz oz sz : ByteArray) (bz : Bool) (cz rz qz : Int) (pz : Option Addr) (nz p0z : Nat) (A : Good k t o s b c r q p n p0) (Z : Good kz tz oz sz bz cz rz qz pz nz p0z) (h : ordK k kz (ky t o s b c) (ky tz oz sz bz cz) = 0) (w : World) : Calls Tryz.prog 12 #[.agg #[.int .i64 k, .string t, .string o, .string s, .bool b, .int .i64 c, .int .i64 r, .int .i64 q, .slice p n p0], .agg #[.int .i64 kz, .string tz, .string oz, .string sz, .bool bz, .int .i64 cz, .int .i64 rz, .int .i64 qz, .slice pz nz p0z]] w fun e w' => e = .returned (.bool true) ∧ Below w.heap.size w w' := by
  have hA := A.ok
  have hZ := Z.ok
  clear A Z
  have hk : k = kz := by
    by_cases hk : k = kz
    · exact hk
    · unfold ordK at h
      rw [if_neg hk] at h
      exact absurd (rank_inj hA.lo hA.hi hZ.lo hZ.hi (cmpI_zero h)) hk
  subst hk
  unfold ordK at h
  rw [if_pos rfl] at h
  unfold inK at h
  obtain ⟨x1, x2, x3, x4, x5⟩ := hA.zr
  obtain ⟨y1, y2, y3, y4, y5⟩ := hZ.zr
  have hk5 := hA.hi
  obtain ⟨rfl, rfl, rfl⟩ := x5.resolve_left (by omega)
  obtain ⟨rfl, rfl, rfl⟩ := y5.resolve_left (by omega)
  have hs : s = sz := by
    by_cases h0 : k = 0
    · rw [x2.resolve_left (by omega), y2.resolve_left (by omega)]
    · rw [if_neg h0] at h
      exact cmpS_zero (orI_zero h).2
  have hto : t = tz ∧ o = oz := by
    by_cases h1 : k = 1
    · rw [if_neg (by omega)] at h
      have h2 := (orI_zero h).1
      unfold cmpK at h2
      rw [if_pos h1] at h2
      have h3 := (Pure.qcmp_zero (valQ t o).2 (valQ tz oz).2).1 h2
      obtain ⟨a1, a2, _⟩ := valQ_of (hA.num h1)
      obtain ⟨z1, z2, _⟩ := valQ_of (hZ.num h1)
      exact ⟨by rw [a1, h3, ← z1], by rw [a2, h3, ← z2]⟩
    · obtain ⟨a1, a2⟩ := x1.resolve_left h1
      obtain ⟨z1, z2⟩ := y1.resolve_left h1
      exact ⟨by rw [a1, z1], by rw [a2, z2]⟩
  have hb : b = bz := by
    by_cases h1 : k = 3
    · rw [if_neg (by omega)] at h
      have h2 := (orI_zero h).1
      unfold cmpK at h2
      rw [if_neg (by omega), if_neg (by omega), if_pos h1] at h2
      exact flag_zero h2
    · rw [x3.resolve_left h1, y3.resolve_left h1]
  have hc : c = cz := by
    by_cases h1 : k = 4
    · rw [if_neg (by omega)] at h
      have h2 := (orI_zero h).1
      unfold cmpK at h2
      rw [if_neg (by omega), if_neg (by omega), if_neg (by omega)] at h2
      exact cmpI_zero h2
    · rw [x4.resolve_left h1, y4.resolve_left h1]
  clear h hA hZ x1 x2 x3 x4 y1 y2 y3 y4 x5 y5
  obtain ⟨rfl, rfl⟩ := hto
  subst hs hb hc
  exact same_calls k t o s b c 0 0 p p0 pz p0z w
theorem law_good (k : Int) (t o s : ByteArray) (b : Bool) (c r q : Int) (p : Option Addr) (n p0 : Nat) (kz : Int) (tz oz sz : ByteArray) (bz : Bool) (cz rz qz : Int) (pz : Option Addr) (nz p0z : Nat) (km : Int) (tm om sm : ByteArray) (bm : Bool) (cm rm qm : Int) (pm : Option Addr) (nm p0m : Nat) (A : Good k t o s b c r q p n p0) (Z : Good kz tz oz sz bz cz rz qz pz nz p0z) (M : Good km tm om sm bm cm rm qm pm nm p0m) : ∃ x u v, Law k t o s b c r q p n p0 kz tz oz sz bz cz rz qz pz nz p0z km tm om sm bm cm rm qm pm nm p0m x u v := by
  have ha := ordK_cmp.anti ⟨k, A.ok.lo, A.ok.hi, ky t o s b c⟩ ⟨kz, Z.ok.lo, Z.ok.hi, ky tz oz sz bz cz⟩
  have hl := ordK_cmp.le ⟨k, A.ok.lo, A.ok.hi, ky t o s b c⟩ ⟨kz, Z.ok.lo, Z.ok.hi, ky tz oz sz bz cz⟩ ⟨km, M.ok.lo, M.ok.hi, ky tm om sm bm cm⟩
  have hg := ordK_cmp.ge ⟨k, A.ok.lo, A.ok.hi, ky t o s b c⟩ ⟨kz, Z.ok.lo, Z.ok.hi, ky tz oz sz bz cz⟩ ⟨km, M.ok.lo, M.ok.hi, ky tm om sm bm cm⟩
  have h1 := ordK_cmp.tri ⟨k, A.ok.lo, A.ok.hi, ky t o s b c⟩ ⟨kz, Z.ok.lo, Z.ok.hi, ky tz oz sz bz cz⟩
  have h2 := ordK_cmp.tri ⟨kz, Z.ok.lo, Z.ok.hi, ky tz oz sz bz cz⟩ ⟨km, M.ok.lo, M.ok.hi, ky tm om sm bm cm⟩
  have h3 := ordK_cmp.tri ⟨k, A.ok.lo, A.ok.hi, ky t o s b c⟩ ⟨km, M.ok.lo, M.ok.hi, ky tm om sm bm cm⟩
  simp only at ha hl hg h1 h2 h3
  refine ⟨_, _, _, ord_calls k t o s b c r q p n p0 kz tz oz sz bz cz rz qz pz nz p0z A Z, ?_, ord_calls kz tz oz sz bz cz rz qz pz nz p0z km tm om sm bm cm rm qm pm nm p0m Z M, ord_calls k t o s b c r q p n p0 km tm om sm bm cm rm qm pm nm p0m A M, h1, h2, h3, hl, hg, fun h w => eq_calls k t o s b c r q p n p0 kz tz oz sz bz cz rz qz pz nz p0z A Z h w⟩
  rw [← ha]
  exact ord_calls kz tz oz sz bz cz rz qz pz nz p0z k t o s b c r q p n p0 Z A
theorem total_calls (k : Int) (t o s : ByteArray) (b : Bool) (c r q : Int) (p : Option Addr) (n p0 : Nat) (kz : Int) (tz oz sz : ByteArray) (bz : Bool) (cz rz qz : Int) (pz : Option Addr) (nz p0z : Nat) (km : Int) (tm om sm : ByteArray) (bm : Bool) (cm rm qm : Int) (pm : Option Addr) (nm p0m : Nat) (ht : t.size ≤ maxLen) (ho : o.size ≤ maxLen) (hs : s.size ≤ maxLen) (htz : tz.size ≤ maxLen) (hoz : oz.size ≤ maxLen) (hsz : sz.size ≤ maxLen) (htm : tm.size ≤ maxLen) (hom : om.size ≤ maxLen) (hsm : sm.size ≤ maxLen) (w : World) (hW : Wd w) (hIa : Itm w p n) (hIb : Itm w pz nz) (hIc : Itm w pm nm) :
    Calls Tryz.prog 4 #[.agg #[.int .i64 k, .string t, .string o, .string s, .bool b, .int .i64 c, .int .i64 r, .int .i64 q, .slice p n p0], .agg #[.int .i64 kz, .string tz, .string oz, .string sz, .bool bz, .int .i64 cz, .int .i64 rz, .int .i64 qz, .slice pz nz p0z], .agg #[.int .i64 km, .string tm, .string om, .string sm, .bool bm, .int .i64 cm, .int .i64 rm, .int .i64 qm, .slice pm nm p0m]] w fun x w' => x = .returned (.bool true) ∧ Below w.heap.size w w' :=
  total_walk k t o s b c r q p n p0 kz tz oz sz bz cz rz qz pz nz p0z km tm om sm bm cm rm qm pm nm p0m (Good k t o s b c r q p n p0) (Good kz tz oz sz bz cz rz qz pz nz p0z) (Good km tm om sm bm cm rm qm pm nm p0m) (chk_good k t o s b c r q p n p0 ht ho hs) (chk_good kz tz oz sz bz cz rz qz pz nz p0z htz hoz hsz) (chk_good km tm om sm bm cm rm qm pm nm p0m htm hom hsm) (fun A Z M => law_good k t o s b c r q p n p0 kz tz oz sz bz cz rz qz pz nz p0z km tm om sm bm cm rm qm pm nm p0m A Z M) w hW hIa hIb hIc
end Go.Proofs.YtckfdhnimmaeiaaGreatDoor.Pr
