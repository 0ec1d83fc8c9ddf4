/- cellref.Parse answers always. -/
import Derived.Test.YtefhcgnamfnkbaaDoorPureText
import Derived.Test.YtefhcgnamfnkbaaDoorParseF
namespace Go.Proofs.YtefhcgnamfnkbaaDoor.Pure
open Go.RowKit Go.Proofs.YtefhcgnamfnkbaaDoor.Pr Go.Proofs.YtefhcgnamfnkbaaDoorW.PrintWords Go.Proofs.YtefhcgnamfnkbaaDoorW.PrintLast
open Go.Proofs.YtefhcgnamfnkbaaDoor
theorem name_l0 (s : ByteArray) (hs : s.size ≤ 200) : ∀ (d i : Nat), i + d = s.size → ∃ e : Int, cellref_name.l0 (d + 1) s (s.size : Int) (i : Int) = some e := by
  intro d
  induction d with
  | zero =>
    intro i hi
    refine ⟨0, ?_⟩
    unfold cellref_name.l0
    rw [if_neg (by omega)]
  | succ d ih =>
    intro i hi
    obtain ⟨e, he⟩ := ih (i + 1) (by omega)
    unfold cellref_name.l0
    rw [if_pos (by omega), if_pos (by omega), if_pos (by omega)]
    have hw : wrap64 ((i : Int) + 1) = ((i + 1 : Nat) : Int) := by unfold wrap64; omega
    rw [hw]
    by_cases h1 : bt s (i : Int) < 32
    · exact ⟨9, by rw [if_pos h1]⟩
    · rw [if_neg h1]
      by_cases h2 : bt s (i : Int) > 126
      · exact ⟨9, by rw [if_pos h2]⟩
      · exact ⟨e, by rw [if_neg h2]; exact he⟩
theorem name_up (s : ByteArray) (k d : Nat) : LeO (cellref_name.f k s) (cellref_name.f (k + d) s) := by
  induction d with
  | zero => exact LeO.refl _
  | succ d ih => exact LeO.trans ih (cellref_name.mono s (k + d))
theorem name_total (s : ByteArray) : ∃ e : Int, cellref_name.f 201 s = some e := by
  by_cases hs : s.size ≤ 200
  · obtain ⟨e, he⟩ := name_l0 s hs s.size 0 (by omega)
    refine ⟨e, ?_⟩
    have : cellref_name.f (s.size + 1) s = some e := by
      unfold cellref_name.f
      rw [if_neg (by omega)]
      exact he
    have h := name_up s (s.size + 1) (200 - s.size) e this
    rw [show s.size + 1 + (200 - s.size) = 201 by omega] at h
    exact h
  · exact ⟨3, by unfold cellref_name.f; rw [if_pos (by omega)]⟩
theorem meaning_some (s : ByteArray) (k n c n2 c2 : Int) (a b a2 b2 : Bool) : ∃ m, cellref_meaning.f s k n c n2 c2 a b a2 b2 = some m := by
  unfold cellref_meaning.f
  repeat' split
  all_goals exact ⟨_, rfl⟩
/-- The bytes of a list. -/
abbrev B (l : List UInt8) : ByteArray := ⟨l.toArray⟩
theorem B_app (l m : List UInt8) : B l ++ B m = B (l ++ m) := bytes_eq (by rw [dat_append])
theorem B_size (l : List UInt8) : (B l).size = l.length := by show l.toArray.size = _; simp
theorem B_list (l : List UInt8) : (B l).toList = l := by rw [ByteArray.toList_eq]
theorem B_data (l : List UInt8) : (B l).data.toList = l := rfl
theorem B_self (s : ByteArray) : B s.data.toList = s := rfl
theorem B_noL (l : List UInt8) : noL (B l) = l.isEmpty := by unfold noL; rw [B_list]
theorem bt_B (l : List UInt8) (i : Nat) (h : i < l.length) : bt (B l) (i : Int) = ((l[i]).toNat : Int) := by
  unfold bt
  rw [dif_pos (show ((i : Int)).toNat < (B l).size from by rw [B_size]; simpa using h)]
  rfl
def okB (c : UInt8) : Bool := isL c || (isD c || c == 95)
theorem bt_nat (s : ByteArray) (i : Nat) (h : i < s.size) : bt s (i : Int) = ((s.data.toList[i]'(by rw [Array.length_toList]; exact h)).toNat : Int) :=
  bt_B s.data.toList i (by rw [Array.length_toList]; exact h)
theorem eq95 (c : UInt8) : ((c.toNat : Int) = 95) ↔ (c == 95) = true := by
  rw [beq_iff_eq]
  constructor
  · intro h
    have : c.toNat = (95 : UInt8).toNat := by show c.toNat = 95; omega
    exact UInt8.toNat_inj.1 this
  · rintro rfl; rfl
/-- What Plain asks, byte for byte. -/
theorem plain_step (k : Nat) (s : ByteArray) (i : Nat) (hs : s.size ≤ 1000) (h : i < s.size) :
    cellref_Plain.l0 (k + 1) s (s.size : Int) (i : Int) =
      (if (isL (s.data.toList[i]'(by rw [Array.length_toList]; exact h)) = true ∨ (i ≠ 0 ∧ okB (s.data.toList[i]'(by rw [Array.length_toList]; exact h)) = true)) then cellref_Plain.l0 k s (s.size : Int) ((i + 1 : Nat) : Int) else some false) := by
  simp only [cellref_Plain.l0]
  rw [if_pos (by omega), if_pos (by omega), if_pos (by omega), bt_nat s i h, letter_isL, digit_isD]
  have w : wrap64 ((i : Int) + 1) = ((i + 1 : Nat) : Int) := by unfold wrap64; omega
  rw [w]
  obtain ⟨c, hc⟩ : ∃ c, c = s.data.toList[i]'(by rw [Array.length_toList]; exact h) := ⟨_, rfl⟩
  rw [← hc]
  simp only [Option.bind_some]
  unfold okB
  cases h1 : isL c
  · by_cases h0 : i = 0
    · subst h0; simp
    · have h0' : ¬ (i : Int) = 0 := by omega
      cases h2 : isD c
      · cases h3 : c == 95
        · have h4 : ¬ (c.toNat : Int) = 95 := fun e => by rw [eq95, h3] at e; cases e
          simp [h4]
        · have h4 : (c.toNat : Int) = 95 := (eq95 c).2 h3
          simp [h0, h4]
      · simp [h0]
  · simp
theorem plain_end (k : Nat) (s : ByteArray) (i : Nat) (h : ¬ i < s.size) : cellref_Plain.l0 (k + 1) s (s.size : Int) (i : Int) = some (s.toList != ([] : List UInt8)) := by
  simp only [cellref_Plain.l0]
  rw [if_neg (by omega)]
theorem plain_total (s : ByteArray) (hs : s.size ≤ 1000) : ∀ (d k i : Nat), i + d = s.size → d < k → ∃ b, cellref_Plain.l0 k s (s.size : Int) (i : Int) = some b ∧ (b = true → ∀ j (hj : j < s.data.toList.length), i ≤ j → okB s.data.toList[j] = true ∧ (j = 0 → isL s.data.toList[j] = true)) := by
  intro d
  induction d with
  | zero =>
    intro k i hi hk
    obtain ⟨k, rfl⟩ : ∃ q, k = q + 1 := ⟨k - 1, by omega⟩
    refine ⟨_, plain_end k s i (by omega), fun _ j hj hij => ?_⟩
    rw [Array.length_toList] at hj
    have : s.data.size = s.size := rfl
    omega
  | succ d ih =>
    intro k i hi hk
    obtain ⟨k, rfl⟩ : ∃ q, k = q + 1 := ⟨k - 1, by omega⟩
    rw [plain_step k s i hs (by omega)]
    by_cases hc : (isL (s.data.toList[i]'(by rw [Array.length_toList]; show i < s.size; omega)) = true ∨ (i ≠ 0 ∧ okB (s.data.toList[i]'(by rw [Array.length_toList]; show i < s.size; omega)) = true))
    · rw [if_pos hc]
      obtain ⟨b, hb, hall⟩ := ih k (i + 1) (by omega) (by omega)
      refine ⟨b, hb, fun hbt j hj hij => ?_⟩
      rcases Nat.lt_or_ge i j with h1 | h1
      · exact hall hbt j hj h1
      · obtain rfl : j = i := by omega
        rcases hc with hc | ⟨h0, hc⟩
        · exact ⟨by unfold okB; rw [hc]; rfl, fun _ => hc⟩
        · exact ⟨hc, fun e => absurd e h0⟩
    · rw [if_neg hc]
      exact ⟨false, rfl, fun h => by cases h⟩
theorem Plain_total (s : ByteArray) (hs : s.size ≤ 1000) (k : Nat) (hk : 1000 < k) : ∃ b, cellref_Plain.f k s = some b ∧ (b = true → ∀ c ∈ s.data.toList, okB c = true) ∧ (b = true → ∃ c r, s.data.toList = c :: r ∧ isL c = true) := by
  obtain ⟨b, hb, hall⟩ := plain_total s hs s.size k 0 (by omega) (by omega)
  refine ⟨b, hb, fun h c hc => ?_, fun h => ?_⟩
  · obtain ⟨j, hj, rfl⟩ := List.getElem_of_mem hc
    exact (hall h j hj (Nat.zero_le _)).1
  · cases hl : s.data.toList with
    | nil =>
      have h0 : s.size = 0 := by
        have := congrArg List.length hl
        rw [Array.length_toList] at this
        exact this
      obtain ⟨k, rfl⟩ : ∃ q, k = q + 1 := ⟨k - 1, by omega⟩
      have := plain_end k s 0 (by omega)
      rw [show ((0 : Nat) : Int) = 0 from rfl] at this
      change cellref_Plain.l0 (k + 1) s (s.size : Int) 0 = some b at hb
      rw [hb, ByteArray.toList_eq, hl] at this
      rw [h] at this
      exact absurd (Option.some.inj this) (by decide)
    | cons c r =>
      refine ⟨c, r, rfl, ?_⟩
      have := (hall h 0 (by rw [hl]; simp) (Nat.le_refl _)).2 rfl
      simpa [hl] using this
theorem prefix1 (l : List UInt8) (c : UInt8) : strings_HasPrefix.f (B l) ⟨#[c]⟩ = some (decide (l.head? = some c)) := by
  unfold strings_HasPrefix.f
  rw [hasp1]
  rfl
theorem cut1 (l : List UInt8) (c : UInt8) (hl : l.length ≤ 1000) : strings_Cut.f (B l) ⟨#[c]⟩ = some (B (Lib.cut l [c]).1, B (Lib.cut l [c]).2.1, (Lib.cut l [c]).2.2) := by
  unfold strings_Cut.f
  rw [if_pos (by rw [B_size]; omega)]
theorem perm_some (n : Int) : ∃ b, cellref_permitted.f n = some b := by
  unfold cellref_permitted.f
  split <;> exact ⟨_, rfl⟩
theorem check_gen (K : Nat) (hK : 201 ≤ K) (s : ByteArray) (d n c n2 c2 : Int) (a b a2 b2 : Bool) : ∃ e : Int, cellref_Check.f (K + 1 + 1) s d n c n2 c2 a b a2 b2 = some e := by
  have hj : ∀ x, ∃ e : Int, cellref_Check.j0 (K + 1 + 1) x s d n c n2 c2 a b a2 b2 = some e := by
    intro x
    obtain ⟨e, he⟩ := name_total s
    have hu := name_up s 201 (K + 1 - 201) e he
    rw [show 201 + (K + 1 - 201) = K + 1 by omega] at hu
    obtain ⟨m, hm⟩ := meaning_some s d n c n2 c2 a b a2 b2
    obtain ⟨p1, h1⟩ := perm_some n
    obtain ⟨p2, h2⟩ := perm_some c
    obtain ⟨p3, h3⟩ := perm_some n2
    obtain ⟨p4, h4⟩ := perm_some c2
    have hj1 : ∀ y, ∃ e : Int, cellref_Check.j1 (K + 1) y s d n c n2 c2 a b a2 b2 = some e := by
      intro y
      simp only [cellref_Check.j1]
      repeat' split
      all_goals exact ⟨_, rfl⟩
    rw [cellref_Check.j0]
    simp only [hu, hm, h1, h2, h3, h4, Option.bind_some]
    repeat' split
    all_goals first | exact ⟨_, rfl⟩ | exact hj1 _
  unfold cellref_Check.f
  split <;> exact hj _
theorem check_tot (k : Nat) (hk : 1000 < k) (s : ByteArray) (d n c n2 c2 : Int) (a b a2 b2 : Bool) : ∃ e : Int, cellref_Check.f k s d n c n2 c2 a b a2 b2 = some e := by
  obtain ⟨K, rfl⟩ : ∃ q, k = q + 1 + 1 := ⟨k - 2, by omega⟩
  exact check_gen K (by omega) s d n c n2 c2 a b a2 b2
theorem decFrom_total : ∀ (l : List UInt8) (acc : Nat), (∀ c ∈ l, isD c = true) → ∃ n, Lib.decFrom acc l = some n
  | [], acc, _ => ⟨acc, rfl⟩
  | c :: r, acc, h => by
    have hc := (isD_bounds c).1 (h c List.mem_cons_self)
    have : Lib.digitVal c = some (c.toNat - 48) := by unfold Lib.digitVal; rw [if_pos hc]
    simp only [Lib.decFrom, this]
    exact decFrom_total r _ fun d hd => h d (List.mem_cons_of_mem _ hd)
theorem atoi_total (l : List UInt8) (h : ∀ c ∈ l, isD c = true) (h0 : l ≠ []) : ∃ v, Lib.atoi l = some v := by
  cases l with
  | nil => exact absurd rfl h0
  | cons c r =>
    have hd := (isD_bounds c).1 (h c List.mem_cons_self)
    have n1 : (c == 45) = false := by
      refine beq_eq_false_iff_ne.2 fun e => ?_
      subst e; exact absurd hd.1 (by decide)
    have n2 : (c == 43) = false := by
      refine beq_eq_false_iff_ne.2 fun e => ?_
      subst e; exact absurd hd.1 (by decide)
    obtain ⟨n, hn⟩ := decFrom_total (c :: r) 0 h
    refine ⟨(n : Int), ?_⟩
    unfold Lib.atoi
    simp only [n1, n2, Bool.false_eq_true, if_false, Lib.decNat, List.isEmpty_cons, hn, Option.map_some]
theorem Column_l0_total (l : List UInt8) (hl : l.length ≤ 1000) (d : Nat) : ∀ (k i : Nat) (a : Int), i + d = l.length → d < k → ∃ r, cellref_Column.l0 k (B l) a (l.length : Int) (i : Int) = some r := by
  induction d with
  | zero =>
    intro k i a hi hk
    obtain ⟨k, rfl⟩ : ∃ q, k = q + 1 := ⟨k - 1, by omega⟩
    simp only [cellref_Column.l0]
    rw [if_neg (by omega)]
    split <;> exact ⟨_, rfl⟩
  | succ d ih =>
    intro k i a hi hk
    obtain ⟨k, rfl⟩ : ∃ q, k = q + 1 := ⟨k - 1, by omega⟩
    simp only [cellref_Column.l0]
    rw [if_pos (by omega), if_pos (by omega), if_pos (by rw [B_size]; omega), bt_B l i (by omega), letter_isL, Option.bind_some]
    have w : wrap64 ((i : Int) + 1) = ((i + 1 : Nat) : Int) := by unfold wrap64; omega
    rw [w]
    split
    · exact ih k (i + 1) _ (by omega) (by omega)
    · exact ⟨_, rfl⟩
theorem Column_total (l : List UInt8) (hl : l.length ≤ 7) (k : Nat) (hk : 20 < k) : ∃ r, cellref_Column.f k (B l) = some r := by
  obtain ⟨k, rfl⟩ : ∃ q, k = q + 1 := ⟨k - 1, by omega⟩
  unfold cellref_Column.f
  simp only [cellref_Column.j0]
  rw [B_size]
  obtain ⟨r, hr⟩ := Column_l0_total l (by omega) l.length k 0 0 (by omega) (by omega)
  rw [show ((0 : Nat) : Int) = 0 from rfl] at hr
  split
  · exact ⟨_, rfl⟩
  · split
    · exact ⟨_, rfl⟩
    · exact ⟨r, hr⟩
theorem values_total (L N : List UInt8) (hL : L.length ≤ 7) (hN : N.length ≤ 10) (hd : ∀ c ∈ N, isD c = true) (a b : Bool) (k : Nat) (hk : 30 < k) : ∃ v, cellref_corner_values.f k (B L) (B N) a b = some v := by
  have hj : ∀ x y, ∃ v, cellref_corner_values.j0 k x y (B L) (B N) a b = some v := by
    intro x y
    obtain ⟨k, rfl⟩ : ∃ q, k = q + 1 := ⟨k - 1, by omega⟩
    simp only [cellref_corner_values.j0]
    obtain ⟨r, hr⟩ := Column_total L hL k (by omega)
    rw [hr, Option.bind_some]
    repeat' split
    all_goals exact ⟨_, rfl⟩
  unfold cellref_corner_values.f
  rw [B_list]
  by_cases h0 : N = []
  · rw [if_pos h0]; exact hj _ _
  · obtain ⟨v, hv⟩ := atoi_total N hd h0
    have : strconv_Atoi.f (B N) = some (v, none) := by
      unfold strconv_Atoi.f
      rw [if_pos (by rw [B_size]; omega), B_data, hv]
    rw [if_neg h0, this, Option.bind_some]
    exact hj _ _
theorem takeWhile_all (p : UInt8 → Bool) : ∀ l : List UInt8, ∀ c ∈ l.takeWhile p, p c = true
  | [], c, h => by cases h
  | a :: l, c, h => by
    rw [List.takeWhile_cons] at h
    split at h
    · rename_i e
      rcases List.mem_cons.1 h with rfl | h
      · exact e
      · exact takeWhile_all p l c h
    · cases h
theorem place_parts (l : List UInt8) : (placeL l).2.2.2.2 = true → (placeL l).1.length ≤ 7 ∧ (placeL l).2.1.length ≤ 10 ∧ ∀ c ∈ (placeL l).2.1, isD c = true := by
  intro h
  unfold placeL at h ⊢
  simp only [Bool.and_eq_true, decide_eq_true_eq] at h
  exact ⟨h.2.1.1.1, h.2.1.1.2, takeWhile_all isD _⟩
theorem place_f (l : List UInt8) (hl : l.length ≤ 1000) : cellref_place.f (B l) = some (B (placeL l).1, B (placeL l).2.1, (placeL l).2.2.1, (placeL l).2.2.2.1, (placeL l).2.2.2.2) := by
  unfold cellref_place.f
  rw [if_pos (by rw [B_size]; omega)]
theorem refLast_total (k : Nat) (hk : 1000 < k) (s : ByteArray) (d n c n2 c2 : Int) (a b a2 b2 : Bool) : ∃ q, refLast k s d n c n2 c2 a b a2 b2 = some q := by
  obtain ⟨e, he⟩ := check_tot k hk s d n c n2 c2 a b a2 b2
  unfold refLast
  rw [he, Option.bind_some]
  split <;> exact ⟨_, rfl⟩
theorem refEnd_total (k : Nat) (hk : 1000 < k) (s : ByteArray) (d n c n2 c2 : Int) (a b a2 b2 : Bool) : ∃ q, refEnd k s d n c n2 c2 a b a2 b2 = some q := by
  have : ∃ o, cellref_ordered.f s d n c n2 c2 a b a2 b2 = some o := by
    unfold cellref_ordered.f
    repeat' split
    all_goals exact ⟨_, rfl⟩
  obtain ⟨o, ho⟩ := this
  unfold refEnd
  rw [ho, Option.bind_some]
  exact refLast_total k hk _ _ _ _ _ _ _ _ _ _
theorem form_fine {ok fine good la na lb nb two : Bool} (h : formB ok fine good la na lb nb two = true) : fine = true ∧ good = true := by
  unfold formB at h
  simp only [Bool.and_eq_true] at h
  exact ⟨h.2.1, h.2.2.1⟩
theorem unq_len : ∀ (n : Nat) (l acc : List UInt8), l.length ≤ n → (unq acc l).2.1.length ≤ l.length := by
  intro n
  induction n with
  | zero =>
    intro l acc h
    have : l = [] := List.eq_nil_of_length_eq_zero (by omega)
    subst this; simp [unq]
  | succ n ih =>
    intro l acc h
    match l, h with
    | [], _ => simp [unq]
    | [c], _ => simp only [unq]; split <;> simp
    | c :: d :: r, h =>
      simp only [List.length_cons] at h ⊢
      simp only [unq]
      split
      · split
        · have := ih r (acc ++ [39]) (by omega); omega
        · split
          · show r.length ≤ _; omega
          · show (d :: r).length ≤ _; simp
      · have := ih (d :: r) (acc ++ [c]) (by simp only [List.length_cons]; omega)
        simp only [List.length_cons] at this
        omega
theorem cut_len1 (l s : List UInt8) : (Lib.cut l s).1.length ≤ l.length := by
  unfold Lib.cut
  split
  · simp only [List.length_take]; omega
  · exact Nat.le_refl _
theorem cut_len2 (l s : List UInt8) : (Lib.cut l s).2.1.length ≤ l.length := by
  unfold Lib.cut
  split
  · simp only [List.length_drop]; omega
  · exact Nat.zero_le _
theorem sheet_total (k : Nat) (hk : 1000 < k) (l : List UInt8) (hl : l.length ≤ 500) : ∃ (t : ByteArray) (m : List UInt8) (ok : Bool), cellref_sheet.f k (B l) = some (t, B m, ok) ∧ m.length ≤ 500 := by
  unfold cellref_sheet.f
  rw [if_pos (by rw [B_size]; omega), prefix1, Option.bind_some]
  split
  · refine ⟨_, _, _, rfl, ?_⟩
    have := unq_len _ ((B l).data.toList.drop 1) [] (Nat.le_refl _)
    rw [B_data, List.length_drop] at this
    change (unq [] ((B l).data.toList.drop 1)).2.1.length ≤ 500
    rw [B_data]
    omega
  · rw [cut1 l 33 (by omega), Option.bind_some]
    have h1 := cut_len1 l [33]
    have h2 := cut_len2 l [33]
    split
    · split
      · exact ⟨_, _, _, rfl, hl⟩
      · obtain ⟨p, hp, _, _⟩ := Plain_total (B (Lib.cut l [33]).1) (by rw [B_size]; omega) k hk
        rw [hp, Option.bind_some]
        exact ⟨_, _, _, rfl, by omega⟩
    · exact ⟨_, _, _, rfl, hl⟩
theorem two_total (k : Nat) (hk : 1000 < k) (t : ByteArray) (ok : Bool) (X Y : List UInt8) : ∃ q, parseTwo k t ok (B (placeL X).1, B (placeL X).2.1, (placeL X).2.2.1, (placeL X).2.2.2.1, (placeL X).2.2.2.2) (B (placeL Y).1, B (placeL Y).2.1, (placeL Y).2.2.1, (placeL Y).2.2.2.1, (placeL Y).2.2.2.2) = some q := by
  unfold parseTwo
  split
  · rename_i h
    obtain ⟨f1, f2⟩ := form_fine h
    obtain ⟨a1, a2, a3⟩ := place_parts X f1
    obtain ⟨b1, b2, b3⟩ := place_parts Y f2
    obtain ⟨v, hv⟩ := values_total (placeL X).1 (placeL X).2.1 a1 a2 a3 (placeL X).2.2.1 (placeL X).2.2.2.1 k (by omega)
    obtain ⟨u, hu⟩ := values_total (placeL Y).1 (placeL Y).2.1 b1 b2 b3 (placeL Y).2.2.1 (placeL Y).2.2.2.1 k (by omega)
    simp only [hv, hu, Option.bind_some]
    split
    · split
      · exact refEnd_total k hk _ _ _ _ _ _ _ _ _ _
      · exact ⟨_, rfl⟩
    · exact ⟨_, rfl⟩
  · exact ⟨_, rfl⟩
theorem one_total (k : Nat) (hk : 1000 < k) (t : ByteArray) (ok : Bool) (X : List UInt8) : ∃ q, parseOne k t ok (B (placeL X).1, B (placeL X).2.1, (placeL X).2.2.1, (placeL X).2.2.2.1, (placeL X).2.2.2.2) = some q := by
  unfold parseOne
  split
  · rename_i h
    obtain ⟨f1, _⟩ := form_fine h
    obtain ⟨a1, a2, a3⟩ := place_parts X f1
    obtain ⟨v, hv⟩ := values_total (placeL X).1 (placeL X).2.1 a1 a2 a3 (placeL X).2.2.1 (placeL X).2.2.2.1 k (by omega)
    simp only [hv, Option.bind_some]
    split
    · exact refEnd_total k hk _ _ _ _ _ _ _ _ _ _
    · exact ⟨_, rfl⟩
  · exact ⟨_, rfl⟩
theorem parse_total (k : Nat) (hk : 1000 < k) (s : ByteArray) : ∃ q, cellref_Parse.f k s = some q := by
  unfold cellref_Parse.f
  split
  · exact ⟨_, rfl⟩
  · split
    · exact ⟨_, rfl⟩
    · have hl : s.data.toList.length ≤ 500 := by rw [Array.length_toList]; show s.size ≤ 500; omega
      obtain ⟨t, m, ok, hs, hm⟩ := sheet_total k hk s.data.toList hl
      rw [B_self] at hs
      have h1 := cut_len1 m [58]
      have h2 := cut_len2 m [58]
      simp only [hs, Option.bind_some, cut1 m 58 (by omega), place_f _ (Nat.le_trans h1 (Nat.le_trans hm (by decide))), place_f _ (Nat.le_trans h2 (Nat.le_trans hm (by decide)))]
      split
      · exact two_total k hk _ _ _ _
      · exact one_total k hk _ _ _
end Go.Proofs.YtefhcgnamfnkbaaDoor.Pure
