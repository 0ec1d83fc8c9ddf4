/- A reference is read from its text, as plain functions: Parse. -/
import Derived.Test.YtefhcgnamfnkbaaDoorPureRefText2
namespace Go.Proofs.YtefhcgnamfnkbaaDoor.Pure
open Go.RowKit Go.Proofs.YtefhcgnamfnkbaaDoor.Pr Go.Proofs.YtefhcgnamfnkbaaDoorW.PrintWords Go.Proofs.YtefhcgnamfnkbaaDoorW.PrintLast
open Go.Proofs.YtefhcgnamfnkbaaDoor

/-! ### Parse answers always -/
theorem decFrom_total : ∀ (l : List UInt8) (acc : Nat), (∀ c ∈ l, isD c = true) → ∃ n, Lib.decFrom acc l = some n
  | [], acc, _ => ⟨acc, rfl⟩
  | c :: r, acc, h => by
    have hc := (isD_bounds c).1 (h c List.mem_cons_self)
    have : Lib.digitVal c = some (c.toNat - 48) := by unfold Lib.digitVal; rw [if_pos hc]
    simp only [Lib.decFrom, this]
    exact decFrom_total r _ fun d hd => h d (List.mem_cons_of_mem _ hd)
theorem atoi_total (l : List UInt8) (h : ∀ c ∈ l, isD c = true) (h0 : l ≠ []) : ∃ v, Lib.atoi l = some v := by
  cases l with
  | nil => exact absurd rfl h0
  | cons c r =>
    have hd := (isD_bounds c).1 (h c List.mem_cons_self)
    have n1 : (c == 45) = false := by
      refine beq_eq_false_iff_ne.2 fun e => ?_
      subst e; exact absurd hd.1 (by decide)
    have n2 : (c == 43) = false := by
      refine beq_eq_false_iff_ne.2 fun e => ?_
      subst e; exact absurd hd.1 (by decide)
    obtain ⟨n, hn⟩ := decFrom_total (c :: r) 0 h
    refine ⟨(n : Int), ?_⟩
    unfold Lib.atoi
    simp only [n1, n2, Bool.false_eq_true, if_false, Lib.decNat, List.isEmpty_cons, hn, Option.map_some]
theorem Column_l0_total (l : List UInt8) (hl : l.length ≤ 1000) (d : Nat) : ∀ (k i : Nat) (a : Int), i + d = l.length → d < k → ∃ r, cellref_Column.l0 k (B l) a (l.length : Int) (i : Int) = some r := by
  induction d with
  | zero =>
    intro k i a hi hk
    obtain ⟨k, rfl⟩ : ∃ q, k = q + 1 := ⟨k - 1, by omega⟩
    simp only [cellref_Column.l0]
    rw [if_neg (by omega)]
    split <;> exact ⟨_, rfl⟩
  | succ d ih =>
    intro k i a hi hk
    obtain ⟨k, rfl⟩ : ∃ q, k = q + 1 := ⟨k - 1, by omega⟩
    simp only [cellref_Column.l0]
    rw [if_pos (by omega), if_pos (by omega), if_pos (by rw [B_size]; omega), bt_B l i (by omega), letter_isL, Option.bind_some]
    have w : wrap64 ((i : Int) + 1) = ((i + 1 : Nat) : Int) := by unfold wrap64; omega
    rw [w]
    split
    · exact ih k (i + 1) _ (by omega) (by omega)
    · exact ⟨_, rfl⟩
theorem Column_total (l : List UInt8) (hl : l.length ≤ 7) (k : Nat) (hk : 20 < k) : ∃ r, cellref_Column.f k (B l) = some r := by
  obtain ⟨k, rfl⟩ : ∃ q, k = q + 1 := ⟨k - 1, by omega⟩
  unfold cellref_Column.f
  simp only [cellref_Column.j0]
  rw [B_size]
  obtain ⟨r, hr⟩ := Column_l0_total l (by omega) l.length k 0 0 (by omega) (by omega)
  rw [show ((0 : Nat) : Int) = 0 from rfl] at hr
  split
  · exact ⟨_, rfl⟩
  · split
    · exact ⟨_, rfl⟩
    · exact ⟨r, hr⟩
theorem values_total (L N : List UInt8) (hL : L.length ≤ 7) (hN : N.length ≤ 10) (hd : ∀ c ∈ N, isD c = true) (a b : Bool) (k : Nat) (hk : 30 < k) : ∃ v, cellref_corner_values.f k (B L) (B N) a b = some v := by
  have hj : ∀ x y, ∃ v, cellref_corner_values.j0 k x y (B L) (B N) a b = some v := by
    intro x y
    obtain ⟨k, rfl⟩ : ∃ q, k = q + 1 := ⟨k - 1, by omega⟩
    simp only [cellref_corner_values.j0]
    obtain ⟨r, hr⟩ := Column_total L hL k (by omega)
    rw [hr, Option.bind_some]
    repeat' split
    all_goals exact ⟨_, rfl⟩
  unfold cellref_corner_values.f
  rw [B_list]
  by_cases h0 : N = []
  · rw [if_pos h0]; exact hj _ _
  · obtain ⟨v, hv⟩ := atoi_total N hd h0
    have : strconv_Atoi.f (B N) = some (v, none) := by
      unfold strconv_Atoi.f
      rw [if_pos (by rw [B_size]; omega), B_data, hv]
    rw [if_neg h0, this, Option.bind_some]
    exact hj _ _
theorem takeWhile_all (p : UInt8 → Bool) : ∀ l : List UInt8, ∀ c ∈ l.takeWhile p, p c = true
  | [], c, h => by cases h
  | a :: l, c, h => by
    rw [List.takeWhile_cons] at h
    split at h
    · rename_i e
      rcases List.mem_cons.1 h with rfl | h
      · exact e
      · exact takeWhile_all p l c h
    · cases h
theorem place_parts (l : List UInt8) : (placeL l).2.2.2.2 = true → (placeL l).1.length ≤ 7 ∧ (placeL l).2.1.length ≤ 10 ∧ ∀ c ∈ (placeL l).2.1, isD c = true := by
  intro h
  unfold placeL at h ⊢
  simp only [Bool.and_eq_true, decide_eq_true_eq] at h
  exact ⟨h.2.1.1.1, h.2.1.1.2, takeWhile_all isD _⟩
theorem place_f (l : List UInt8) (hl : l.length ≤ 1000) : cellref_place.f (B l) = some (B (placeL l).1, B (placeL l).2.1, (placeL l).2.2.1, (placeL l).2.2.2.1, (placeL l).2.2.2.2) := by
  unfold cellref_place.f
  rw [if_pos (by rw [B_size]; omega)]
theorem refLast_total (k : Nat) (hk : 1000 < k) (s : ByteArray) (d n c n2 c2 : Int) (a b a2 b2 : Bool) : ∃ q, refLast k s d n c n2 c2 a b a2 b2 = some q := by
  obtain ⟨e, he, _⟩ := check_k k hk s d n c n2 c2 a b a2 b2
  unfold refLast
  rw [he, Option.bind_some]
  split <;> exact ⟨_, rfl⟩
theorem refEnd_total (k : Nat) (hk : 1000 < k) (s : ByteArray) (d n c n2 c2 : Int) (a b a2 b2 : Bool) : ∃ q, refEnd k s d n c n2 c2 a b a2 b2 = some q := by
  have : ∃ o, cellref_ordered.f s d n c n2 c2 a b a2 b2 = some o := by
    unfold cellref_ordered.f
    repeat' split
    all_goals exact ⟨_, rfl⟩
  obtain ⟨o, ho⟩ := this
  unfold refEnd
  rw [ho, Option.bind_some]
  exact refLast_total k hk _ _ _ _ _ _ _ _ _ _
theorem form_fine {ok fine good la na lb nb two : Bool} (h : formB ok fine good la na lb nb two = true) : fine = true ∧ good = true := by
  unfold formB at h
  simp only [Bool.and_eq_true] at h
  exact ⟨h.2.1, h.2.2.1⟩
theorem unq_len : ∀ (n : Nat) (l acc : List UInt8), l.length ≤ n → (unq acc l).2.1.length ≤ l.length := by
  intro n
  induction n with
  | zero =>
    intro l acc h
    have : l = [] := List.eq_nil_of_length_eq_zero (by omega)
    subst this; simp [unq]
  | succ n ih =>
    intro l acc h
    match l, h with
    | [], _ => simp [unq]
    | [c], _ => simp only [unq]; split <;> simp
    | c :: d :: r, h =>
      simp only [List.length_cons] at h ⊢
      simp only [unq]
      split
      · split
        · have := ih r (acc ++ [39]) (by omega); omega
        · split
          · show r.length ≤ _; omega
          · show (d :: r).length ≤ _; simp
      · have := ih (d :: r) (acc ++ [c]) (by simp only [List.length_cons]; omega)
        simp only [List.length_cons] at this
        omega
theorem cut_len1 (l s : List UInt8) : (Lib.cut l s).1.length ≤ l.length := by
  unfold Lib.cut
  split
  · simp only [List.length_take]; omega
  · exact Nat.le_refl _
theorem cut_len2 (l s : List UInt8) : (Lib.cut l s).2.1.length ≤ l.length := by
  unfold Lib.cut
  split
  · simp only [List.length_drop]; omega
  · exact Nat.zero_le _
theorem sheet_total (k : Nat) (hk : 1000 < k) (l : List UInt8) (hl : l.length ≤ 500) : ∃ (t : ByteArray) (m : List UInt8) (ok : Bool), cellref_sheet.f k (B l) = some (t, B m, ok) ∧ m.length ≤ 500 := by
  unfold cellref_sheet.f
  rw [if_pos (by rw [B_size]; omega), prefix1, Option.bind_some]
  split
  · refine ⟨_, _, _, rfl, ?_⟩
    have := unq_len _ ((B l).data.toList.drop 1) [] (Nat.le_refl _)
    rw [B_data, List.length_drop] at this
    change (unq [] ((B l).data.toList.drop 1)).2.1.length ≤ 500
    rw [B_data]
    omega
  · rw [cut1 l 33 (by omega), Option.bind_some]
    have h1 := cut_len1 l [33]
    have h2 := cut_len2 l [33]
    split
    · split
      · exact ⟨_, _, _, rfl, hl⟩
      · obtain ⟨p, hp, _, _⟩ := Plain_total (B (Lib.cut l [33]).1) (by rw [B_size]; omega) k hk
        rw [hp, Option.bind_some]
        exact ⟨_, _, _, rfl, by omega⟩
    · exact ⟨_, _, _, rfl, hl⟩
theorem two_total (k : Nat) (hk : 1000 < k) (t : ByteArray) (ok : Bool) (X Y : List UInt8) : ∃ q, parseTwo k t ok (B (placeL X).1, B (placeL X).2.1, (placeL X).2.2.1, (placeL X).2.2.2.1, (placeL X).2.2.2.2) (B (placeL Y).1, B (placeL Y).2.1, (placeL Y).2.2.1, (placeL Y).2.2.2.1, (placeL Y).2.2.2.2) = some q := by
  unfold parseTwo
  split
  · rename_i h
    obtain ⟨f1, f2⟩ := form_fine h
    obtain ⟨a1, a2, a3⟩ := place_parts X f1
    obtain ⟨b1, b2, b3⟩ := place_parts Y f2
    obtain ⟨v, hv⟩ := values_total (placeL X).1 (placeL X).2.1 a1 a2 a3 (placeL X).2.2.1 (placeL X).2.2.2.1 k (by omega)
    obtain ⟨u, hu⟩ := values_total (placeL Y).1 (placeL Y).2.1 b1 b2 b3 (placeL Y).2.2.1 (placeL Y).2.2.2.1 k (by omega)
    simp only [hv, hu, Option.bind_some]
    split
    · split
      · exact refEnd_total k hk _ _ _ _ _ _ _ _ _ _
      · exact ⟨_, rfl⟩
    · exact ⟨_, rfl⟩
  · exact ⟨_, rfl⟩
theorem one_total (k : Nat) (hk : 1000 < k) (t : ByteArray) (ok : Bool) (X : List UInt8) : ∃ q, parseOne k t ok (B (placeL X).1, B (placeL X).2.1, (placeL X).2.2.1, (placeL X).2.2.2.1, (placeL X).2.2.2.2) = some q := by
  unfold parseOne
  split
  · rename_i h
    obtain ⟨f1, _⟩ := form_fine h
    obtain ⟨a1, a2, a3⟩ := place_parts X f1
    obtain ⟨v, hv⟩ := values_total (placeL X).1 (placeL X).2.1 a1 a2 a3 (placeL X).2.2.1 (placeL X).2.2.2.1 k (by omega)
    simp only [hv, Option.bind_some]
    split
    · exact refEnd_total k hk _ _ _ _ _ _ _ _ _ _
    · exact ⟨_, rfl⟩
  · exact ⟨_, rfl⟩
theorem parse_total (k : Nat) (hk : 1000 < k) (s : ByteArray) : ∃ q, cellref_Parse.f k s = some q := by
  unfold cellref_Parse.f
  split
  · exact ⟨_, rfl⟩
  · split
    · exact ⟨_, rfl⟩
    · have hl : s.data.toList.length ≤ 500 := by rw [Array.length_toList]; show s.size ≤ 500; omega
      obtain ⟨t, m, ok, hs, hm⟩ := sheet_total k hk s.data.toList hl
      rw [B_self] at hs
      have h1 := cut_len1 m [58]
      have h2 := cut_len2 m [58]
      simp only [hs, Option.bind_some, cut1 m 58 (by omega), place_f _ (Nat.le_trans h1 (Nat.le_trans hm (by decide))), place_f _ (Nat.le_trans h2 (Nat.le_trans hm (by decide)))]
      split
      · exact two_total k hk _ _ _ _
      · exact one_total k hk _ _ _

/-! ### Parse at a text that was printed -/
theorem corner_ok (c : UInt8) (h : isL c = true ∨ isD c = true ∨ c = 36) : c ≠ 58 ∧ c ≠ 33 ∧ c ≠ 39 ∧ c ≠ 35 ∧ c.toNat < 128 := by
  have : ∀ n : Fin 256, (isL (UInt8.ofNat n.val) = true ∨ isD (UInt8.ofNat n.val) = true ∨ UInt8.ofNat n.val = 36) → UInt8.ofNat n.val ≠ 58 ∧ UInt8.ofNat n.val ≠ 33 ∧ UInt8.ofNat n.val ≠ 39 ∧ UInt8.ofNat n.val ≠ 35 ∧ (UInt8.ofNat n.val).toNat < 128 := by decide +kernel
  have e := this ⟨c.toNat, UInt8.toNat_lt c⟩
  simp only [UInt8.ofNat_toNat] at e
  exact e h
theorem dol_mem (a : Bool) (l : List UInt8) (c : UInt8) (h : c ∈ dol a l) : c = 36 ∨ c ∈ l := by
  cases a
  · exact .inr h
  · exact List.mem_cons.1 h
/-- The bytes of a corner. -/
def Corn (X : List UInt8) : Prop := ∀ c ∈ X, isL c = true ∨ isD c = true ∨ c = 36
theorem corn_let {L : List UInt8} (h : ∀ c ∈ L, isL c = true) : Corn L := fun c hc => .inl (h c hc)
theorem corn_dig {L : List UInt8} (h : ∀ c ∈ L, isD c = true) : Corn L := fun c hc => .inr (.inl (h c hc))
theorem corn_dol {L : List UInt8} (a : Bool) (h : Corn L) : Corn (dol a L) := fun c hc => (dol_mem a L c hc).elim (fun e => .inr (.inr e)) (h c)
theorem corn_app {L M : List UInt8} (h : Corn L) (g : Corn M) : Corn (L ++ M) := fun c hc => (List.mem_append.1 hc).elim (h c) (g c)
theorem corn_58 {X : List UInt8} (h : Corn X) : 58 ∉ X := fun hm => (corner_ok 58 (h 58 hm)).1 rfl
/-- The letters in use. -/
def Fits (F : Nat → List UInt8) (c : Nat) : Prop := IsCol (F (c + 1)) c
def bodyX (d : Int) (n c : Nat) (a b : Bool) (F : Nat → List UInt8) : List UInt8 :=
  if d = 2 then dol a (Lib.decDigits (n + 1)) else if d = 3 then dol b (F (c + 1)) else dol b (F (c + 1) ++ dol a (Lib.decDigits (n + 1)))
theorem bodyX_corn (d : Int) (n c : Nat) (a b : Bool) (F : Nat → List UInt8) (hF : Fits F c) : Corn (bodyX d n c a b F) := by
  unfold bodyX
  have h1 := corn_let hF.1
  have h2 := corn_dig (dec_digits (n + 1))
  split
  · exact corn_dol a h2
  · split
    · exact corn_dol b h1
    · exact corn_dol b (corn_app h1 (corn_dol a h2))
theorem bodyX_ne (d : Int) (n c : Nat) (a b : Bool) (F : Nat → List UInt8) (hF : Fits F c) : bodyX d n c a b F ≠ [] := by
  have h1 := hF.2.1
  have h2 := dec_ne n
  unfold bodyX
  repeat' split
  all_goals (cases a <;> cases b <;> simp [dol, h1, h2])
theorem bodyX_len (d : Int) (n c : Nat) (a b : Bool) (F : Nat → List UInt8) (hF : Fits F c) (hn : n < 1073741824) : (bodyX d n c a b F).length ≤ 19 := by
  have h1 := hF.2.2.1
  have h2 := dec_len10 n hn
  unfold bodyX
  split
  · have := dol_len a (Lib.decDigits (n + 1)); omega
  · split
    · have := dol_len b (F (c + 1)); omega
    · have g1 := dol_len a (Lib.decDigits (n + 1))
      have g2 := dol_len b (F (c + 1) ++ dol a (Lib.decDigits (n + 1)))
      rw [List.length_append] at g2
      omega
theorem body_eq (d : Int) (hd : 0 ≤ d ∧ d ≤ 3) (n c n2 c2 : Nat) (a b a2 b2 : Bool) (F : Nat → List UInt8) :
    bodyL d n c n2 c2 a b a2 b2 F = if d = 0 then bodyX d n c a b F else bodyX d n c a b F ++ 58 :: bodyX d n2 c2 a2 b2 F := by
  unfold bodyL bodyX
  by_cases h0 : d = 0
  · subst h0; simp
  · by_cases h1 : d = 1
    · subst h1; simp
    · by_cases h2 : d = 2
      · subst h2; simp
      · obtain rfl : d = 3 := by omega
        simp
/-- What Parse makes of a corner. -/
theorem corner_f (k : Nat) (hk : 1000 < k) (d : Int) (n c : Nat) (a b : Bool) (F : Nat → List UInt8) (hF : Fits F c) (hn : n < 1073741824) (h2 : d = 2 → c = 0 ∧ b = false) (h3 : d = 3 → n = 0 ∧ a = false) :
    ∃ L N : List UInt8, placeL (bodyX d n c a b F) = (L, N, b, a, true) ∧ cellref_corner_values.f k (B L) (B N) b a = some ((n : Int), (c : Int), 0) ∧ L.isEmpty = decide (d = 2) ∧ N.isEmpty = decide (d = 3) := by
  have hN := dec_digits (n + 1)
  unfold bodyX
  by_cases e2 : d = 2
  · obtain ⟨rfl, rfl⟩ := h2 e2
    rw [if_pos e2]
    refine ⟨[], Lib.decDigits (n + 1), place_row a _ hN (dec_ne n) (dec_len10 n hn) (dec_48 n), values_row k n _ _ (by omega) hn, by simp [e2], ?_⟩
    have := dec_ne n
    have e3 : ¬ d = 3 := by omega
    simp [this, e3]
  · rw [if_neg e2]
    by_cases e3 : d = 3
    · obtain ⟨rfl, rfl⟩ := h3 e3
      rw [if_pos e3]
      refine ⟨F (c + 1), [], place_col b _ hF.1 hF.2.1 hF.2.2.1, values_col k c _ _ _ (by omega) hF, ?_, by simp [e3]⟩
      have := hF.2.1
      simp [this, e2]
    · rw [if_neg e3]
      refine ⟨F (c + 1), Lib.decDigits (n + 1), place_cell b a _ _ hF.1 hN hF.2.1 (dec_ne n) hF.2.2.1 (dec_len10 n hn) (dec_48 n), values_cell k c n _ _ _ (by omega) hF hn, ?_, ?_⟩
      · have := hF.2.1
        simp [this, e2]
      · have := dec_ne n
        simp [this, e3]
theorem good_fields {s : ByteArray} {d n c n2 c2 : Int} {a b a2 b2 : Bool} (h : Good s d n c n2 c2 a b a2 b2) :
    (d = 0 → n2 = 0 ∧ c2 = 0 ∧ a2 = false ∧ b2 = false) ∧ (d = 2 → c = 0 ∧ c2 = 0 ∧ b = false ∧ b2 = false) ∧ (d = 3 → n = 0 ∧ n2 = 0 ∧ a = false ∧ a2 = false) ∧ (d = 4 → s = ⟨#[]⟩ ∧ n = 0 ∧ c = 0 ∧ n2 = 0 ∧ c2 = 0 ∧ a = false ∧ b = false ∧ a2 = false ∧ b2 = false) := by
  have hm := h.2.2.1
  refine ⟨?_, ?_, ?_, ?_⟩ <;> rintro rfl <;> simp [cellref_meaning.f] at hm
  · exact ⟨hm.1.symm, hm.2.1.symm, hm.2.2⟩
  · exact ⟨hm.1.symm, hm.2.1.symm, hm.2.2⟩
  · exact ⟨hm.1.symm, hm.2.1.symm, hm.2.2⟩
  · exact ⟨hm.1.symm, hm.2.1.symm, hm.2.2.1.symm, hm.2.2.2.1.symm, hm.2.2.2.2.1.symm, hm.2.2.2.2.2⟩
theorem ordered_good {s : ByteArray} {d n c n2 c2 : Int} {a b a2 b2 : Bool} (h : Good s d n c n2 c2 a b a2 b2) : cellref_ordered.f s d n c n2 c2 a b a2 b2 = some (s, d, n, c, n2, c2, a, b, a2, b2) := by
  unfold cellref_ordered.f
  rcases h.2.2.2.2 with h0 | ⟨h1, h2⟩
  · rw [if_pos h0]
  · split
    · rfl
    · rw [if_neg (by omega), if_neg (by omega)]
theorem refEnd_good (k : Nat) (hk : 1000 < k) {s : ByteArray} {d n c n2 c2 : Int} {a b a2 b2 : Bool} (h : Good s d n c n2 c2 a b a2 b2) : refEnd k s d n c n2 c2 a b a2 b2 = some (s, d, n, c, n2, c2, a, b, a2, b2, 0) := by
  unfold refEnd
  rw [ordered_good h, Option.bind_some]
  unfold refLast
  rw [check_good k hk h, Option.bind_some, if_pos rfl]
theorem parse_text (k : Nat) (hk : 1000 < k) (x : List UInt8) (hx : x.length ≤ 500) (h35 : x ≠ [35, 82, 69, 70, 33]) (s : ByteArray) (d : Int) (hd : 0 ≤ d ∧ d ≤ 3) (n c n2 c2 : Nat) (hn : n < 1073741824) (hn2 : n2 < 1073741824) (a b a2 b2 : Bool) (F : Nat → List UInt8) (hF : Fits F c) (hF2 : Fits F c2)
    (hs : cellref_sheet.f k (B x) = some (s, B (bodyL d n c n2 c2 a b a2 b2 F), true)) (hg : Good s d n c n2 c2 a b a2 b2) :
    cellref_Parse.f k (B x) = some (s, d, (n : Int), (c : Int), (n2 : Int), (c2 : Int), a, b, a2, b2, 0) := by
  obtain ⟨g0, g2, g3, g4⟩ := good_fields hg
  have hX := bodyX_len d n c a b F hF hn
  have hY := bodyX_len d n2 c2 a2 b2 F hF2 hn2
  have hXc := corn_58 (bodyX_corn d n c a b F hF)
  obtain ⟨L, N, p1, p2, p3, p4⟩ := corner_f k hk d n c a b F hF hn (fun e => ⟨by have := (g2 e).1; omega, (g2 e).2.2.1⟩) (fun e => ⟨by have := (g3 e).1; omega, (g3 e).2.2.1⟩)
  obtain ⟨L2, N2, q1, q2, q3, q4⟩ := corner_f k hk d n2 c2 a2 b2 F hF2 hn2 (fun e => ⟨by have := (g2 e).2.1; omega, (g2 e).2.2.2⟩) (fun e => ⟨by have := (g3 e).2.1; omega, (g3 e).2.2.2⟩)
  unfold cellref_Parse.f
  rw [if_neg (by rw [B_size]; omega), B_list, if_neg h35, hs, Option.bind_some]
  simp only
  rw [body_eq d hd]
  by_cases h0 : d = 0
  · subst h0
    obtain ⟨z1, z2, rfl, rfl⟩ := g0 rfl
    rw [if_pos rfl, cut1 _ 58 (by omega), cut_no 58 _ hXc, Option.bind_some]
    simp only
    rw [place_f _ (by omega), p1, Option.bind_some]
    simp only
    rw [if_neg (by decide)]
    unfold parseOne
    simp only [B_noL, p3, p4]
    rw [if_pos (by decide), p2, Option.bind_some]
    simp only [if_true]
    rw [z1, z2] at hg ⊢
    exact refEnd_good k hk hg
  · rw [if_neg h0, cut1 _ 58 (by rw [List.length_append, List.length_cons]; omega), cut_at 58 _ _ hXc, Option.bind_some]
    simp only
    rw [place_f _ (by omega), p1, place_f _ (by omega), q1, Option.bind_some]
    simp only [if_true]
    rw [Option.bind_some]
    unfold parseTwo
    simp only [B_noL, p3, p4, q3, q4]
    have hk2 : kindOf (decide (d = 2)) (decide (d = 3)) = d := by
      have : d = 1 ∨ d = 2 ∨ d = 3 := by omega
      rcases this with rfl | rfl | rfl <;> rfl
    have hf : formB true true true (decide (d = 2)) (decide (d = 3)) (decide (d = 2)) (decide (d = 3)) true = true := by
      have : d = 1 ∨ d = 2 ∨ d = 3 := by omega
      rcases this with rfl | rfl | rfl <;> rfl
    rw [if_pos hf, p2, Option.bind_some]
    simp only [if_true]
    rw [q2, Option.bind_some]
    simp only [if_true]
    rw [hk2]
    exact refEnd_good k hk hg

/-! ### The law -/
theorem lower_f (l : List UInt8) (hl : l.length ≤ 1000) (h : ∀ c ∈ l, c.toNat < 128) : strings_ToLower.f (B l) = some (B (Lib.toLowerA l)) := by
  unfold strings_ToLower.f
  rw [if_pos ⟨by rw [B_size]; omega, List.all_eq_true.2 fun c hc => decide_eq_true (h c hc)⟩]
theorem low_body (d : Int) (n c n2 c2 : Nat) (a b a2 b2 : Bool) : Lib.toLowerA (bodyL d n c n2 c2 a b a2 b2 colL) = bodyL d n c n2 c2 a b a2 b2 (fun m => Lib.toLowerA (colL m)) := by
  have hc : ∀ l : List UInt8, Lib.toLowerA (58 :: l) = 58 :: Lib.toLowerA l := by
    intro l
    show Lib.lowerB 58 :: _ = _
    rw [show Lib.lowerB 58 = 58 from by decide]; rfl
  unfold bodyL
  repeat' split
  all_goals simp only [low_app, low_dol, low_dig _ (dec_digits _), hc]
theorem text_law (k : Nat) (hk : 1000 < k) (s : ByteArray) (d n c n2 c2 : Int) (a b a2 b2 : Bool) (hg : Good s d n c n2 c2 a b a2 b2) :
    ∃ (t t' : ByteArray) (q1 : ByteArray) (q2 q3 q4 q5 q6 : Int) (q7 q8 q9 q10 : Bool) (q11 : Int), cellref_Print.f k s d n c n2 c2 a b a2 b2 = some (t, 0) ∧ cellref_Parse.f k t = some (s, d, n, c, n2, c2, a, b, a2, b2, 0) ∧ strings_ToLower.f t = some t' ∧
      cellref_Parse.f k t' = some (q1, q2, q3, q4, q5, q6, q7, q8, q9, q10, q11) ∧ (s.toList = [] → d ≠ 4 → (q1, q2, q3, q4, q5, q6, q7, q8, q9, q10, q11) = (s, d, n, c, n2, c2, a, b, a2, b2, 0)) := by
  obtain ⟨hd, hname, hm, ⟨pn, pc, pn2, pc2⟩, ho⟩ := id hg
  rw [perm_iff] at pn pc pn2 pc2
  obtain ⟨n, rfl⟩ := Int.eq_ofNat_of_zero_le pn.1
  obtain ⟨c, rfl⟩ := Int.eq_ofNat_of_zero_le pc.1
  obtain ⟨n2, rfl⟩ := Int.eq_ofNat_of_zero_le pn2.1
  obtain ⟨c2, rfl⟩ := Int.eq_ofNat_of_zero_le pc2.1
  have hn : n < 1073741824 := by omega
  have hc : c < 1073741824 := by omega
  have hn2 : n2 < 1073741824 := by omega
  have hc2 : c2 < 1073741824 := by omega
  obtain ⟨hs, hasc⟩ := name_good s hname
  by_cases h4 : d = 4
  · subst h4
    obtain ⟨rfl, z1, z2, z3, z4, rfl, rfl, rfl, rfl⟩ := (good_fields hg).2.2.2 rfl
    rw [z1, z2, z3, z4] at hg ⊢
    have hT := lower_f [35, 82, 69, 70, 33] (by decide) (by decide)
    obtain ⟨⟨q1, q2, q3, q4, q5, q6, q7, q8, q9, q10, q11⟩, hq⟩ := parse_total k hk (B (Lib.toLowerA [35, 82, 69, 70, 33]))
    refine ⟨B [35, 82, 69, 70, 33], _, q1, q2, q3, q4, q5, q6, q7, q8, q9, q10, q11, ?_, ?_, hT, hq, fun _ h => absurd rfl h⟩
    · obtain ⟨k, rfl⟩ : ∃ q, k = q + 1 := ⟨k - 1, by omega⟩
      unfold cellref_Print.f
      rw [check_good (k + 1) hk hg, Option.bind_some, if_pos rfl, if_pos (B_list [])]
      simp only [cellref_Print.j0]
      rfl
    · unfold cellref_Parse.f
      rw [if_neg (by decide), if_pos (B_list _)]
  · have hd3 : 0 ≤ d ∧ d ≤ 3 := by omega
    have F1 : Fits colL c := isCol_up c hc
    have F2 : Fits colL c2 := isCol_up c2 hc2
    have G1 : Fits (fun m => Lib.toLowerA (colL m)) c := isCol_low F1
    have G2 : Fits (fun m => Lib.toLowerA (colL m)) c2 := isCol_low F2
    have hlen : ∀ (F : Nat → List UInt8), Fits F c → Fits F c2 → (bodyL d n c n2 c2 a b a2 b2 F).length ≤ 39 ∧ (bodyL d n c n2 c2 a b a2 b2 F).head? ≠ some 39 ∧ (33 : UInt8) ∉ bodyL d n c n2 c2 a b a2 b2 F ∧ (∀ x ∈ bodyL d n c n2 c2 a b a2 b2 F, x.toNat < 128) ∧ bodyL d n c n2 c2 a b a2 b2 F ≠ [35, 82, 69, 70, 33] := by
      intro F hF hF2
      have hX := bodyX_len d n c a b F hF hn
      have hY := bodyX_len d n2 c2 a2 b2 F hF2 hn2
      have cX := bodyX_corn d n c a b F hF
      have cY := bodyX_corn d n2 c2 a2 b2 F hF2
      have nX := bodyX_ne d n c a b F hF
      have hmem : ∀ x ∈ bodyL d n c n2 c2 a b a2 b2 F, isL x = true ∨ isD x = true ∨ x = 36 ∨ x = 58 := by
        intro x hx
        rw [body_eq d hd3] at hx
        have hm3 : ∀ x ∈ bodyX d n c a b F ++ 58 :: bodyX d n2 c2 a2 b2 F, isL x = true ∨ isD x = true ∨ x = 36 ∨ x = 58 := by
          intro x hx
          rcases List.mem_append.1 hx with h | h
          · rcases cX x h with h | h | h
            · exact .inl h
            · exact .inr (.inl h)
            · exact .inr (.inr (.inl h))
          · rcases List.mem_cons.1 h with h | h
            · exact .inr (.inr (.inr h))
            · rcases cY x h with h | h | h
              · exact .inl h
              · exact .inr (.inl h)
              · exact .inr (.inr (.inl h))
        split at hx
        · exact hm3 x (List.mem_append_left _ hx)
        · exact hm3 x hx
      have hbad : ∀ x ∈ bodyL d n c n2 c2 a b a2 b2 F, x ≠ 33 ∧ x ≠ 39 ∧ x ≠ 35 ∧ x.toNat < 128 := by
        intro x hx
        rcases hmem x hx with h | h | h | h
        · have := corner_ok x (.inl h); exact ⟨this.2.1, this.2.2.1, this.2.2.2.1, this.2.2.2.2⟩
        · have := corner_ok x (.inr (.inl h)); exact ⟨this.2.1, this.2.2.1, this.2.2.2.1, this.2.2.2.2⟩
        · have := corner_ok x (.inr (.inr h)); exact ⟨this.2.1, this.2.2.1, this.2.2.2.1, this.2.2.2.2⟩
        · subst h; decide
      refine ⟨?_, fun h => (hbad 39 (head_of_all h)).2.1 rfl, fun h => (hbad 33 h).1 rfl, fun x hx => (hbad x hx).2.2.2, fun h => ?_⟩
      · rw [body_eq d hd3]
        split
        · omega
        · rw [List.length_append, List.length_cons]; omega
      · exact (hbad 35 (by rw [h]; decide)).2.2.1 rfl
    obtain ⟨l1, l2, l3, l4, l5⟩ := hlen colL F1 F2
    obtain ⟨m1, m2, m3, m4, m5⟩ := hlen _ G1 G2
    obtain ⟨p, hp, hsheet⟩ := sheet_text k hk s hs _ (Nat.le_trans l1 (by decide)) l2 l3
    have hsl : s.data.toList.length ≤ 200 := by rw [Array.length_toList]; exact hs
    have hpl := preL_len s.data.toList p
    have hpr := print_text k hk s hs d hd3 n c n2 c2 hn hc hn2 hc2 a b a2 b2 p hp hg
    have hne : preL s.data.toList p ++ bodyL d n c n2 c2 a b a2 b2 colL ≠ [35, 82, 69, 70, 33] := by
      unfold preL
      split
      · rw [List.nil_append]; exact l5
      · rename_i h0
        split
        · rename_i h1
          obtain ⟨p', hp', hok, hh⟩ := Plain_total s (by omega) k hk
          rw [hp] at hp'
          obtain rfl := Option.some.inj hp'
          obtain ⟨y, r, hy, hyl⟩ := hh h1
          rw [hy]
          intro e
          simp only [List.cons_append, List.cons.injEq] at e
          rw [e.1] at hyl; revert hyl; decide
        · intro e
          simp only [List.cons_append, List.cons.injEq] at e
          exact absurd e.1 (by decide)
    have hpa := parse_text k hk _ (by rw [List.length_append]; omega) hne s d hd3 n c n2 c2 hn hn2 a b a2 b2 colL F1 F2 hsheet hg
    have hasc2 : ∀ x ∈ preL s.data.toList p ++ bodyL d n c n2 c2 a b a2 b2 colL, x.toNat < 128 := by
      intro x hx
      rcases List.mem_append.1 hx with h | h
      · unfold preL at h
        split at h
        · cases h
        · split at h
          · rcases List.mem_append.1 h with h | h
            · exact hasc x h
            · obtain rfl := List.mem_singleton.1 h; decide
          · rcases List.mem_cons.1 h with rfl | h
            · decide
            · rcases List.mem_append.1 h with h | h
              · exact hasc x (dbl_mem _ x h)
              · have : x = 39 ∨ x = 33 := by simpa using h
                rcases this with rfl | rfl <;> decide
      · exact l4 x h
    have hlow := lower_f _ (by rw [List.length_append]; omega) hasc2
    obtain ⟨⟨q1, q2, q3, q4, q5, q6, q7, q8, q9, q10, q11⟩, hq⟩ := parse_total k hk (B (Lib.toLowerA (preL s.data.toList p ++ bodyL d n c n2 c2 a b a2 b2 colL)))
    refine ⟨_, _, q1, q2, q3, q4, q5, q6, q7, q8, q9, q10, q11, hpr, hpa, hlow, hq, fun h0 _ => ?_⟩
    rw [ByteArray.toList_eq] at h0
    have e0 : preL s.data.toList p = [] := by unfold preL; rw [if_pos h0]
    rw [e0, List.nil_append, low_body] at hq
    have hs0 : s = B [] := bytes_eq h0
    have hsh := sheet_none k _ (Nat.le_trans m1 (by decide)) m2 m3
    rw [← hs0] at hsh
    have := parse_text k hk _ (Nat.le_trans m1 (by decide)) m5 s d hd3 n c n2 c2 hn hn2 a b a2 b2 _ G1 G2 hsh hg
    rw [hq] at this
    exact Option.some.inj this
end Go.Proofs.YtefhcgnamfnkbaaDoor.Pure
