/- The text of a reference and its parts, on lists of bytes. -/
import Derived.Test.YtefhcgnamfnkbaaDoorPlace
import Derived.Lib.Atoi
import Derived.Lib.ItoaMem
import Derived.Lib.Replace
import Derived.Lib.ReplaceLaws
import Derived.Lib.Case
namespace Go.Proofs.YtefhcgnamfnkbaaDoor.Pure
open Go.RowKit Go.Proofs.YtefhcgnamfnkbaaDoor.Pr Go.Proofs.YtefhcgnamfnkbaaDoorW.PrintWords Go.Proofs.YtefhcgnamfnkbaaDoorW.PrintLast
open Go.Proofs.YtefhcgnamfnkbaaDoor

/-! ### Numerals -/
theorem digit_val (r : Nat) (h : r < 10) : Lib.digitVal (UInt8.ofNat (48 + r)) = some r ∧ isD (UInt8.ofNat (48 + r)) = true ∧ (r ≠ 0 → UInt8.ofNat (48 + r) ≠ 48) := by
  have : ∀ r : Fin 10, Lib.digitVal (UInt8.ofNat (48 + r.val)) = some r.val ∧ isD (UInt8.ofNat (48 + r.val)) = true ∧ (r.val ≠ 0 → UInt8.ofNat (48 + r.val) ≠ 48) := by decide +kernel
  exact this ⟨r, h⟩
theorem decFrom_snoc (l : List UInt8) (b : UInt8) (d : Nat) (hd : Lib.digitVal b = some d) : ∀ acc n, Lib.decFrom acc l = some n → Lib.decFrom acc (l ++ [b]) = some (n * 10 + d) := by
  induction l with
  | nil =>
    intro acc n h
    simp only [Lib.decFrom, Option.some.injEq] at h
    subst h
    simp [Lib.decFrom, hd]
  | cons a t ih =>
    intro acc n h
    simp only [Lib.decFrom, List.cons_append] at h ⊢
    cases ha : Lib.digitVal a with
    | none => simp [ha] at h
    | some e => simp only [ha] at h ⊢; exact ih _ _ h
theorem dec_small (u : Nat) (h : u < 10) : Lib.decDigits u = [UInt8.ofNat (48 + u)] := by rw [Lib.decDigits, dif_pos h]
theorem dec_big (u : Nat) (h : ¬ u < 10) : Lib.decDigits u = Lib.decDigits (u / 10) ++ [UInt8.ofNat (48 + u % 10)] := by rw [Lib.decDigits, dif_neg h]
theorem dec_back (u : Nat) : Lib.decFrom 0 (Lib.decDigits u) = some u := by
  induction u using Nat.strongRecOn with
  | _ u ih =>
    by_cases h : u < 10
    · rw [dec_small u h]
      show (match Lib.digitVal (UInt8.ofNat (48 + u)) with | some d => Lib.decFrom (0 * 10 + d) [] | none => none) = some u
      rw [(digit_val u h).1]
      simp [Lib.decFrom]
    · rw [dec_big u h, decFrom_snoc _ _ (u % 10) (digit_val _ (by omega)).1 0 (u / 10) (ih _ (by omega))]
      congr 1; omega
theorem dec_digits (u : Nat) : ∀ c ∈ Lib.decDigits u, isD c = true := by
  induction u using Nat.strongRecOn with
  | _ u ih =>
    intro c hc
    by_cases h : u < 10
    · rw [dec_small u h] at hc
      obtain rfl := List.mem_singleton.1 hc
      exact (digit_val u h).2.1
    · rw [dec_big u h, List.mem_append] at hc
      rcases hc with hc | hc
      · exact ih _ (by omega) c hc
      · obtain rfl := List.mem_singleton.1 hc
        exact (digit_val _ (by omega)).2.1
theorem dec_head (u : Nat) (h1 : 1 ≤ u) : ∃ c r, Lib.decDigits u = c :: r ∧ c ≠ 48 := by
  induction u using Nat.strongRecOn with
  | _ u ih =>
    by_cases h : u < 10
    · exact ⟨_, [], dec_small u h, (digit_val u h).2.2 (by omega)⟩
    · obtain ⟨c, r, e, hc⟩ := ih (u / 10) (by omega) (by omega)
      exact ⟨c, r ++ [UInt8.ofNat (48 + u % 10)], by rw [dec_big u h, e]; rfl, hc⟩
theorem dec_len (k : Nat) : ∀ u, u < 10 ^ (k + 1) → (Lib.decDigits u).length ≤ k + 1 := by
  induction k with
  | zero => intro u h; rw [dec_small u (by simpa using h)]; exact Nat.le_refl _
  | succ k ih =>
    intro u h
    by_cases h1 : u < 10
    · rw [dec_small u h1]; simp
    · rw [dec_big u h1, List.length_append]
      have := ih (u / 10) (by rw [Nat.pow_succ] at h; omega)
      simp only [List.length_cons, List.length_nil]
      omega
theorem isD_bounds (c : UInt8) : isD c = true ↔ 48 ≤ c.toNat ∧ c.toNat ≤ 57 := by unfold isD; simp
theorem isL_bounds (c : UInt8) : isL c = true ↔ (65 ≤ c.toNat ∧ c.toNat ≤ 90) ∨ (97 ≤ c.toNat ∧ c.toNat ≤ 122) := by unfold isL; simp
theorem atoi_dec (u : Nat) (h1 : 1 ≤ u) : Lib.atoi (Lib.decDigits u) = some (u : Int) := by
  obtain ⟨c, r, e, _⟩ := dec_head u h1
  have hd : isD c = true := dec_digits u c (by rw [e]; exact List.mem_cons_self)
  rw [isD_bounds] at hd
  have hb := dec_back u
  rw [e] at hb ⊢
  have n1 : (c == 45) = false := by
    refine beq_eq_false_iff_ne.2 fun h => ?_
    subst h; exact absurd hd.1 (by decide)
  have n2 : (c == 43) = false := by
    refine beq_eq_false_iff_ne.2 fun h => ?_
    subst h; exact absurd hd.1 (by decide)
  unfold Lib.atoi
  simp only [n1, n2, Bool.false_eq_true, if_false, Lib.decNat, List.isEmpty_cons, hb, Option.map_some]

/-! ### Corners -/
theorem isL_not (c : UInt8) (h : isD c = true ∨ c = 36 ∨ c = 58 ∨ c = 33) : isL c = false := by
  have : ∀ n : Fin 256, (isD (UInt8.ofNat n.val) = true ∨ UInt8.ofNat n.val = 36 ∨ UInt8.ofNat n.val = 58 ∨ UInt8.ofNat n.val = 33) → isL (UInt8.ofNat n.val) = false := by decide +kernel
  have e := this ⟨c.toNat, UInt8.toNat_lt c⟩
  simp only [UInt8.ofNat_toNat] at e
  exact e h
theorem isD_not (c : UInt8) (h : isL c = true ∨ c = 36 ∨ c = 58 ∨ c = 33) : isD c = false := by
  have : ∀ n : Fin 256, (isL (UInt8.ofNat n.val) = true ∨ UInt8.ofNat n.val = 36 ∨ UInt8.ofNat n.val = 58 ∨ UInt8.ofNat n.val = 33) → isD (UInt8.ofNat n.val) = false := by decide +kernel
  have e := this ⟨c.toNat, UInt8.toNat_lt c⟩
  simp only [UInt8.ofNat_toNat] at e
  exact e h
theorem run_app (p : UInt8 → Bool) (L R : List UInt8) (hL : ∀ c ∈ L, p c = true) (hR : ∀ c, R.head? = some c → p c = false) : (L ++ R).takeWhile p = L ∧ (L ++ R).dropWhile p = R := by
  induction L with
  | nil =>
    cases R with
    | nil => exact ⟨rfl, rfl⟩
    | cons c r => simp [hR c rfl]
  | cons a l ih =>
    have := ih fun c hc => hL c (List.mem_cons_of_mem _ hc)
    simp [hL a List.mem_cons_self, this.1, this.2]
def dol (a : Bool) (l : List UInt8) : List UInt8 := if a then 36 :: l else l
theorem cutD_dol (a : Bool) (l : List UInt8) (h : l.head? ≠ some 36) : cutD (dol a l) = (l, a) := by
  cases a
  · simp [dol, cutD, h]
  · simp [dol, cutD]
theorem head_of_all {L : List UInt8} {c : UInt8} (h : L.head? = some c) : c ∈ L := by
  cases L with
  | nil => cases h
  | cons a l => simp only [List.head?_cons, Option.some.injEq] at h; subst h; exact List.mem_cons_self
theorem letter_ne (L R : List UInt8) (hne : L ≠ []) (hL : ∀ c ∈ L, isL c = true) : (L ++ R).head? ≠ some 36 := by
  cases L with
  | nil => exact absurd rfl hne
  | cons a l =>
    intro h
    simp only [List.cons_append, List.head?_cons, Option.some.injEq] at h
    have := hL a List.mem_cons_self
    rw [isL_not a (.inr (.inl h))] at this
    cases this
theorem digit_ne (N : List UInt8) (hN : ∀ c ∈ N, isD c = true) : N.head? ≠ some 36 := by
  intro h
  have := hN 36 (head_of_all h)
  revert this; decide
theorem digits_run (N : List UInt8) (hN : ∀ c ∈ N, isD c = true) : N.takeWhile isD = N ∧ N.dropWhile isD = [] := by
  have := run_app isD N [] hN (fun c h => by cases h)
  rwa [List.append_nil] at this
theorem letters_run (L : List UInt8) (hL : ∀ c ∈ L, isL c = true) : L.takeWhile isL = L ∧ L.dropWhile isL = [] := by
  have := run_app isL L [] hL (fun c h => by cases h)
  rwa [List.append_nil] at this
/-- A cell's corner. -/
theorem place_cell (a b : Bool) (L N : List UInt8) (hL : ∀ c ∈ L, isL c = true) (hN : ∀ c ∈ N, isD c = true) (hL0 : L ≠ []) (hN0 : N ≠ []) (h7 : L.length ≤ 7) (h10 : N.length ≤ 10) (h48 : N.head? ≠ some 48) :
    placeL (dol a (L ++ dol b N)) = (L, N, a, b, true) := by
  have e1 := cutD_dol a (L ++ dol b N) (letter_ne L _ hL0 hL)
  have e2 := run_app isL L (dol b N) hL (fun c h => by
    cases b
    · exact isL_not c (.inl (hN c (head_of_all h)))
    · simp only [dol, if_true, List.head?_cons, Option.some.injEq] at h
      exact isL_not c (.inr (.inl h.symm)))
  have e3 := cutD_dol b N (digit_ne N hN)
  have e4 := digits_run N hN
  unfold placeL
  simp only [e1, e2.1, e2.2, if_neg hL0, e3, e4.1, e4.2]
  simp [h7, h10, h48, hN0]
/-- A row's. -/
theorem place_row (b : Bool) (N : List UInt8) (hN : ∀ c ∈ N, isD c = true) (hN0 : N ≠ []) (h10 : N.length ≤ 10) (h48 : N.head? ≠ some 48) :
    placeL (dol b N) = ([], N, false, b, true) := by
  have e1 := cutD_dol b N (digit_ne N hN)
  have e2 := run_app isL [] N (fun c h => by cases h) (fun c h => isL_not c (.inl (hN c (head_of_all h))))
  rw [List.nil_append] at e2
  have e4 := digits_run N hN
  unfold placeL
  simp only [e1, e2.1, e2.2, if_pos, e4.1, e4.2]
  simp [h10, h48, hN0]
/-- A column's. -/
theorem place_col (a : Bool) (L : List UInt8) (hL : ∀ c ∈ L, isL c = true) (hL0 : L ≠ []) (h7 : L.length ≤ 7) :
    placeL (dol a L) = (L, [], a, false, true) := by
  have e0 := letter_ne L [] hL0 hL
  rw [List.append_nil] at e0
  have e1 := cutD_dol a L e0
  have e2 := letters_run L hL
  unfold placeL
  simp only [e1, e2.1, e2.2, if_neg hL0]
  simp [cutD, h7, hL0]

/-! ### Where a text is cut -/
theorem index1 (c : UInt8) (B : List UInt8) : ∀ A : List UInt8, c ∉ A → Lib.index (A ++ c :: B) [c] = (A.length : Int)
  | [], _ => by simp [Lib.index, List.isPrefixOf]
  | a :: A, h => by
    have hne : (c == a) = false := beq_eq_false_iff_ne.2 fun e => h (by rw [e]; exact List.mem_cons_self)
    have ih := index1 c B A fun hm => h (List.mem_cons_of_mem _ hm)
    have hn : ((A.length : Int) == -1) = false := beq_eq_false_iff_ne.2 (by omega)
    simp [Lib.index, List.isPrefixOf, hne, ih, hn]
theorem index1_no (c : UInt8) : ∀ A : List UInt8, c ∉ A → Lib.index A [c] = -1
  | [], _ => by simp [Lib.index]
  | a :: A, h => by
    have hne : (c == a) = false := beq_eq_false_iff_ne.2 fun e => h (by rw [e]; exact List.mem_cons_self)
    have ih := index1_no c A fun hm => h (List.mem_cons_of_mem _ hm)
    simp [Lib.index, List.isPrefixOf, hne, ih]
theorem cut_at (c : UInt8) (A B : List UInt8) (h : c ∉ A) : Lib.cut (A ++ c :: B) [c] = (A, B, true) := by
  unfold Lib.cut
  rw [index1 c B A h, if_pos (by omega)]
  simp
theorem cut_no (c : UInt8) (A : List UInt8) (h : c ∉ A) : Lib.cut A [c] = (A, [], false) := by
  unfold Lib.cut
  rw [index1_no c A h, if_neg (by omega)]

/-! ### Apostrophes doubled -/
def dbl : List UInt8 → List UInt8
  | [] => []
  | c :: r => if c = 39 then 39 :: 39 :: dbl r else c :: dbl r
theorem dbl_no : ∀ l : List UInt8, 39 ∉ l → dbl l = l
  | [], _ => rfl
  | c :: r, h => by
    have : c ≠ 39 := fun e => h (by rw [e]; exact List.mem_cons_self)
    rw [dbl, if_neg this, dbl_no r fun hm => h (List.mem_cons_of_mem _ hm)]
theorem dbl_app : ∀ A B : List UInt8, dbl (A ++ B) = dbl A ++ dbl B
  | [], B => rfl
  | c :: r, B => by
    rw [List.cons_append, dbl, dbl, dbl_app r B]
    split <;> rfl
theorem dbl_len : ∀ l : List UInt8, (dbl l).length ≤ 2 * l.length
  | [] => Nat.le_refl _
  | c :: r => by
    have := dbl_len r
    rw [dbl]
    split <;> simp only [List.length_cons] <;> omega
theorem dbl_mem : ∀ (l : List UInt8) (c : UInt8), c ∈ dbl l → c ∈ l
  | [], c, h => by cases h
  | a :: r, c, h => by
    rw [dbl] at h
    split at h
    · rename_i e
      rcases List.mem_cons.1 h with h | h
      · rw [h, ← e]; exact List.mem_cons_self
      · rcases List.mem_cons.1 h with h | h
        · rw [h, ← e]; exact List.mem_cons_self
        · exact List.mem_cons_of_mem _ (dbl_mem r c h)
    · rcases List.mem_cons.1 h with h | h
      · rw [h]; exact List.mem_cons_self
      · exact List.mem_cons_of_mem _ (dbl_mem r c h)
theorem rep_dbl (f : Nat) : ∀ l : List UInt8, l.length < f → Lib.replaceK [39] [39, 39] (Lib.countFrom [39] f l) l = dbl l := by
  induction f with
  | zero => intro l h; omega
  | succ f ih =>
    intro l h
    by_cases hm : (39 : UInt8) ∈ l
    · obtain ⟨A, B, rfl, hA⟩ := List.eq_append_cons_of_mem hm
      have hi := index1 39 B A hA
      have hn : ¬ ((A.length : Int) == -1) = true := by simp
      rw [Lib.countFrom, hi, if_neg hn, Nat.add_comm, Lib.replaceK_hit _ _ _ _ _ hi]
      have hd : (A ++ 39 :: B).drop ((A.length : Int).toNat + [(39 : UInt8)].length) = B := by simp
      have hd2 : (A ++ 39 :: B).drop (A.length + [(39 : UInt8)].length) = B := by simp
      rw [hd, hd2, ih B (by rw [List.length_append, List.length_cons] at h; omega), dbl_app, dbl_no A hA]
      simp [dbl]
    · have hi := index1_no 39 l hm
      rw [Lib.countFrom, hi, if_pos (by decide), Lib.replaceK, dbl_no l hm]
theorem replace_dbl (l : List UInt8) : Lib.replaceAll l [39] [39, 39] = dbl l := by
  unfold Lib.replaceAll Lib.replace Lib.replaceNum
  rw [if_neg (by decide), if_pos (by left; decide)]
  exact rep_dbl (l.length + 1) l (by omega)
theorem unq_dbl (R : List UInt8) : ∀ (l acc : List UInt8), unq acc (dbl l ++ 39 :: 33 :: R) = (acc ++ l, R, !(acc ++ l).isEmpty)
  | [], acc => by rw [dbl, List.nil_append, unq_bang, List.append_nil]
  | c :: r, acc => by
    rw [dbl]
    by_cases h : c = 39
    · rw [if_pos h, List.cons_append, List.cons_append, unq_two, unq_dbl R r, h]; simp
    · rw [if_neg h, List.cons_append, unq_other _ _ _ h, unq_dbl R r]; simp

/-! ### Small letters -/
theorem low_not (c : UInt8) (h : isL c = false) : Lib.lowerB c = c := by
  have : ∀ n : Fin 256, isL (UInt8.ofNat n.val) = false → Lib.lowerB (UInt8.ofNat n.val) = UInt8.ofNat n.val := by decide +kernel
  have e := this ⟨c.toNat, UInt8.toNat_lt c⟩
  simp only [UInt8.ofNat_toNat] at e
  exact e h
theorem low_let (c : UInt8) (h : isL c = true) : isL (Lib.lowerB c) = true ∧ Go.bits .and .u8 ((Lib.lowerB c).toNat : Int) 31 = Go.bits .and .u8 (c.toNat : Int) 31 := by
  have : ∀ n : Fin 256, isL (UInt8.ofNat n.val) = true → isL (Lib.lowerB (UInt8.ofNat n.val)) = true ∧ Go.bits .and .u8 ((Lib.lowerB (UInt8.ofNat n.val)).toNat : Int) 31 = Go.bits .and .u8 ((UInt8.ofNat n.val).toNat : Int) 31 := by decide +kernel
  have e := this ⟨c.toNat, UInt8.toNat_lt c⟩
  simp only [UInt8.ofNat_toNat] at e
  exact e h
theorem low_app (A B : List UInt8) : Lib.toLowerA (A ++ B) = Lib.toLowerA A ++ Lib.toLowerA B := by simp [Lib.toLowerA]
theorem low_dig (N : List UInt8) (h : ∀ c ∈ N, isD c = true) : Lib.toLowerA N = N := by
  induction N with
  | nil => rfl
  | cons a l ih =>
    have h1 := ih fun c hc => h c (List.mem_cons_of_mem _ hc)
    have h2 := low_not a (isL_not a (.inl (h a List.mem_cons_self)))
    show Lib.lowerB a :: Lib.toLowerA l = a :: l
    rw [h1, h2]
theorem low_dol (a : Bool) (l : List UInt8) : Lib.toLowerA (dol a l) = dol a (Lib.toLowerA l) := by
  cases a
  · rfl
  · show Lib.lowerB 36 :: _ = 36 :: _
    rw [show Lib.lowerB 36 = 36 from by decide]; rfl
theorem low_lets (L : List UInt8) (h : ∀ c ∈ L, isL c = true) : ∀ c ∈ Lib.toLowerA L, isL c = true := by
  intro c hc
  obtain ⟨d, hd, rfl⟩ := List.mem_map.1 hc
  exact (low_let d (h d hd)).1
end Go.Proofs.YtefhcgnamfnkbaaDoor.Pure
