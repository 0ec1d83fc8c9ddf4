/- A reference is read from its text, as plain functions: the law. -/
import Derived.Test.YtefhcgnamfnkbaaDoorPureRefText
namespace Go.Proofs.YtefhcgnamfnkbaaDoor.Pure
open Go.RowKit Go.Proofs.YtefhcgnamfnkbaaDoor.Pr Go.Proofs.YtefhcgnamfnkbaaDoorW.PrintWords Go.Proofs.YtefhcgnamfnkbaaDoorW.PrintLast
open Go.Proofs.YtefhcgnamfnkbaaDoor

/-! ### The name of a sheet -/
def okB (c : UInt8) : Bool := isL c || (isD c || c == 95)
theorem ne_of_ok {c d : UInt8} (h : okB c = true) (hd : okB d = false) : c ≠ d := fun e => by rw [e, hd] at h; cases h
theorem bt_nat (s : ByteArray) (i : Nat) (h : i < s.size) : bt s (i : Int) = ((s.data.toList[i]'(by rw [Array.length_toList]; exact h)).toNat : Int) :=
  bt_B s.data.toList i (by rw [Array.length_toList]; exact h)
theorem eq95 (c : UInt8) : ((c.toNat : Int) = 95) ↔ (c == 95) = true := by
  rw [beq_iff_eq]
  constructor
  · intro h
    have : c.toNat = (95 : UInt8).toNat := by show c.toNat = 95; omega
    exact UInt8.toNat_inj.1 this
  · rintro rfl; rfl
/-- What Plain asks, byte for byte. -/
theorem plain_step (k : Nat) (s : ByteArray) (i : Nat) (hs : s.size ≤ 1000) (h : i < s.size) :
    cellref_Plain.l0 (k + 1) s (s.size : Int) (i : Int) =
      (if (isL (s.data.toList[i]'(by rw [Array.length_toList]; exact h)) = true ∨ (i ≠ 0 ∧ okB (s.data.toList[i]'(by rw [Array.length_toList]; exact h)) = true)) then cellref_Plain.l0 k s (s.size : Int) ((i + 1 : Nat) : Int) else some false) := by
  simp only [cellref_Plain.l0]
  rw [if_pos (by omega), if_pos (by omega), if_pos (by omega), bt_nat s i h, letter_isL, digit_isD]
  have w : wrap64 ((i : Int) + 1) = ((i + 1 : Nat) : Int) := by unfold wrap64; omega
  rw [w]
  obtain ⟨c, hc⟩ : ∃ c, c = s.data.toList[i]'(by rw [Array.length_toList]; exact h) := ⟨_, rfl⟩
  rw [← hc]
  simp only [Option.bind_some]
  unfold okB
  cases h1 : isL c
  · by_cases h0 : i = 0
    · subst h0; simp
    · have h0' : ¬ (i : Int) = 0 := by omega
      cases h2 : isD c
      · cases h3 : c == 95
        · have h4 : ¬ (c.toNat : Int) = 95 := fun e => by rw [eq95, h3] at e; cases e
          simp [h4]
        · have h4 : (c.toNat : Int) = 95 := (eq95 c).2 h3
          simp [h0, h4]
      · simp [h0]
  · simp
theorem plain_end (k : Nat) (s : ByteArray) (i : Nat) (h : ¬ i < s.size) : cellref_Plain.l0 (k + 1) s (s.size : Int) (i : Int) = some (s.toList != ([] : List UInt8)) := by
  simp only [cellref_Plain.l0]
  rw [if_neg (by omega)]
theorem plain_total (s : ByteArray) (hs : s.size ≤ 1000) : ∀ (d k i : Nat), i + d = s.size → d < k → ∃ b, cellref_Plain.l0 k s (s.size : Int) (i : Int) = some b ∧ (b = true → ∀ j (hj : j < s.data.toList.length), i ≤ j → okB s.data.toList[j] = true ∧ (j = 0 → isL s.data.toList[j] = true)) := by
  intro d
  induction d with
  | zero =>
    intro k i hi hk
    obtain ⟨k, rfl⟩ : ∃ q, k = q + 1 := ⟨k - 1, by omega⟩
    refine ⟨_, plain_end k s i (by omega), fun _ j hj hij => ?_⟩
    rw [Array.length_toList] at hj
    have : s.data.size = s.size := rfl
    omega
  | succ d ih =>
    intro k i hi hk
    obtain ⟨k, rfl⟩ : ∃ q, k = q + 1 := ⟨k - 1, by omega⟩
    rw [plain_step k s i hs (by omega)]
    by_cases hc : (isL (s.data.toList[i]'(by rw [Array.length_toList]; show i < s.size; omega)) = true ∨ (i ≠ 0 ∧ okB (s.data.toList[i]'(by rw [Array.length_toList]; show i < s.size; omega)) = true))
    · rw [if_pos hc]
      obtain ⟨b, hb, hall⟩ := ih k (i + 1) (by omega) (by omega)
      refine ⟨b, hb, fun hbt j hj hij => ?_⟩
      rcases Nat.lt_or_ge i j with h1 | h1
      · exact hall hbt j hj h1
      · obtain rfl : j = i := by omega
        rcases hc with hc | ⟨h0, hc⟩
        · exact ⟨by unfold okB; rw [hc]; rfl, fun _ => hc⟩
        · exact ⟨hc, fun e => absurd e h0⟩
    · rw [if_neg hc]
      exact ⟨false, rfl, fun h => by cases h⟩
theorem Plain_total (s : ByteArray) (hs : s.size ≤ 1000) (k : Nat) (hk : 1000 < k) : ∃ b, cellref_Plain.f k s = some b ∧ (b = true → ∀ c ∈ s.data.toList, okB c = true) ∧ (b = true → ∃ c r, s.data.toList = c :: r ∧ isL c = true) := by
  obtain ⟨b, hb, hall⟩ := plain_total s hs s.size k 0 (by omega) (by omega)
  refine ⟨b, hb, fun h c hc => ?_, fun h => ?_⟩
  · obtain ⟨j, hj, rfl⟩ := List.getElem_of_mem hc
    exact (hall h j hj (Nat.zero_le _)).1
  · cases hl : s.data.toList with
    | nil =>
      have h0 : s.size = 0 := by
        have := congrArg List.length hl
        rw [Array.length_toList] at this
        exact this
      obtain ⟨k, rfl⟩ : ∃ q, k = q + 1 := ⟨k - 1, by omega⟩
      have := plain_end k s 0 (by omega)
      rw [show ((0 : Nat) : Int) = 0 from rfl] at this
      change cellref_Plain.l0 (k + 1) s (s.size : Int) 0 = some b at hb
      rw [hb, ByteArray.toList_eq, hl] at this
      rw [h] at this
      exact absurd (Option.some.inj this) (by decide)
    | cons c r =>
      refine ⟨c, r, rfl, ?_⟩
      have := (hall h 0 (by rw [hl]; simp) (Nat.le_refl _)).2 rfl
      simpa [hl] using this
theorem name_bytes (s : ByteArray) (hs : s.size ≤ 200) : ∀ (k i : Nat), cellref_name.l0 k s (s.size : Int) (i : Int) = some 0 → ∀ j (hj : j < s.data.toList.length), i ≤ j → s.data.toList[j].toNat < 128 := by
  intro k
  induction k with
  | zero => intro i h; cases h
  | succ k ih =>
    intro i h j hj hij
    have hj2 : j < s.size := by rw [Array.length_toList] at hj; exact hj
    simp only [cellref_name.l0] at h
    rw [if_pos (by omega), if_pos (by omega), if_pos (by omega), bt_nat s i (by omega)] at h
    have w : wrap64 ((i : Int) + 1) = ((i + 1 : Nat) : Int) := by unfold wrap64; omega
    rw [w] at h
    split at h
    · cases h
    · split at h
      · cases h
      · rename_i h1 h2
        rcases Nat.lt_or_ge i j with h3 | h3
        · exact ih (i + 1) h j hj h3
        · obtain rfl : j = i := by omega
          omega
theorem name_good (s : ByteArray) (h : cellref_name.f 201 s = some 0) : s.size ≤ 200 ∧ ∀ c ∈ s.data.toList, c.toNat < 128 := by
  unfold cellref_name.f at h
  split at h
  · cases h
  · have hs : s.size ≤ 200 := by omega
    refine ⟨hs, fun c hc => ?_⟩
    obtain ⟨j, hj, rfl⟩ := List.getElem_of_mem hc
    exact name_bytes s hs 201 0 h j hj (Nat.zero_le _)

/-! ### What stands before a reference -/
def preL (s : List UInt8) (p : Bool) : List UInt8 := if s = [] then [] else if p = true then s ++ [33] else 39 :: (dbl s ++ [39, 33])
theorem head_ne {l : List UInt8} {c : UInt8} (h : l.head? ≠ some c) : decide (l.head? = some c) = false := decide_eq_false h
theorem prefix1 (l : List UInt8) (c : UInt8) : strings_HasPrefix.f (B l) ⟨#[c]⟩ = some (decide (l.head? = some c)) := by
  unfold strings_HasPrefix.f
  rw [hasp1]
  rfl
theorem cut1 (l : List UInt8) (c : UInt8) (hl : l.length ≤ 1000) : strings_Cut.f (B l) ⟨#[c]⟩ = some (B (Lib.cut l [c]).1, B (Lib.cut l [c]).2.1, (Lib.cut l [c]).2.2) := by
  unfold strings_Cut.f
  rw [if_pos (by rw [B_size]; omega)]
theorem sheet_none (k : Nat) (R : List UInt8) (hl : R.length ≤ 1000) (h39 : R.head? ≠ some 39) (h33 : 33 ∉ R) : cellref_sheet.f k (B R) = some (B [], B R, true) := by
  unfold cellref_sheet.f
  rw [if_pos (by rw [B_size]; omega), prefix1, head_ne h39, Option.bind_some, if_neg (by decide), cut1 R 33 hl, cut_no 33 R h33, Option.bind_some, if_neg (by simp)]
theorem sheet_plain (k : Nat) (s R : List UInt8) (hl : (s ++ 33 :: R).length ≤ 1000) (hp : cellref_Plain.f k (B s) = some true) (hok : ∀ c ∈ s, okB c = true) (hh : ∃ c r, s = c :: r ∧ isL c = true) :
    cellref_sheet.f k (B (s ++ 33 :: R)) = some (B s, B R, true) := by
  obtain ⟨c, r, rfl, hc⟩ := hh
  have h39 : ((c :: r) ++ 33 :: R).head? ≠ some 39 := by
    intro e
    simp only [List.cons_append, List.head?_cons, Option.some.injEq] at e
    rw [e] at hc; revert hc; decide
  have h33 : (33 : UInt8) ∉ c :: r := fun hm => by have := hok 33 hm; revert this; decide
  have h35 : ¬ ((c :: r) ++ 33 :: R) = [35, 82, 69, 70, 33] := by
    intro e
    simp only [List.cons_append, List.cons.injEq] at e
    rw [e.1] at hc; revert hc; decide
  unfold cellref_sheet.f
  rw [if_pos (by rw [B_size]; omega), prefix1, head_ne h39, Option.bind_some, if_neg (by decide), cut1 _ 33 hl, cut_at 33 _ R h33, Option.bind_some, if_pos rfl, B_list, if_neg h35, hp, Option.bind_some]
theorem sheet_quoted (k : Nat) (s R : List UInt8) (hl : (39 :: (dbl s ++ 39 :: 33 :: R)).length ≤ 1000) (hs : s ≠ []) :
    cellref_sheet.f k (B (39 :: (dbl s ++ 39 :: 33 :: R))) = some (B s, B R, true) := by
  unfold cellref_sheet.f
  rw [if_pos (by rw [B_size]; omega), prefix1, Option.bind_some]
  rw [if_pos (by simp), B_data, List.drop_one, List.tail_cons, unq_dbl R s []]
  simp [hs]
theorem preL_len (s : List UInt8) (p : Bool) : (preL s p).length ≤ 2 * s.length + 3 := by
  have := dbl_len s
  unfold preL
  split
  · simp
  · split
    · simp only [List.length_append, List.length_cons, List.length_nil]; omega
    · simp only [List.length_append, List.length_cons, List.length_nil]; omega
/-- The name of a sheet is split off its reference. -/
theorem sheet_text (k : Nat) (hk : 1000 < k) (s : ByteArray) (hs : s.size ≤ 200) (R : List UInt8) (hR : R.length ≤ 60) (h39 : R.head? ≠ some 39) (h33 : 33 ∉ R) :
    ∃ p, cellref_Plain.f k s = some p ∧ cellref_sheet.f k (B (preL s.data.toList p ++ R)) = some (s, B R, true) := by
  obtain ⟨p, hp, hok, hh⟩ := Plain_total s (by omega) k hk
  have hsl : s.data.toList.length ≤ 200 := by rw [Array.length_toList]; exact hs
  refine ⟨p, hp, ?_⟩
  have hlen := preL_len s.data.toList p
  by_cases h0 : s.data.toList = []
  · unfold preL
    rw [if_pos h0, List.nil_append, sheet_none k R (by omega) h39 h33]
    have : s = B [] := bytes_eq h0
    rw [this]
  · cases p
    · have e : preL s.data.toList false ++ R = 39 :: (dbl s.data.toList ++ 39 :: 33 :: R) := by
        unfold preL; rw [if_neg h0]; simp
      have hl : (39 :: (dbl s.data.toList ++ 39 :: 33 :: R)).length ≤ 1000 := by rw [← e, List.length_append]; omega
      rw [e, sheet_quoted k _ R hl h0]
    · have e : preL s.data.toList true ++ R = s.data.toList ++ 33 :: R := by
        unfold preL; rw [if_neg h0]; simp
      have hl : (s.data.toList ++ 33 :: R).length ≤ 1000 := by rw [← e, List.length_append]; omega
      rw [e, sheet_plain k _ R hl hp (hok rfl) (hh rfl)]

/-! ### Print -/
def bodyL (d : Int) (n c n2 c2 : Nat) (a b a2 b2 : Bool) (F : Nat → List UInt8) : List UInt8 :=
  if d = 0 then dol b (F (c + 1) ++ dol a (Lib.decDigits (n + 1)))
  else if d = 1 then dol b (F (c + 1) ++ dol a (Lib.decDigits (n + 1))) ++ 58 :: dol b2 (F (c2 + 1) ++ dol a2 (Lib.decDigits (n2 + 1)))
  else if d = 2 then dol a (Lib.decDigits (n + 1)) ++ 58 :: dol a2 (Lib.decDigits (n2 + 1))
  else dol b (F (c + 1)) ++ 58 :: dol b2 (F (c2 + 1))
theorem dol_app (a : Bool) (l m : List UInt8) : dol a (l ++ m) = dol a l ++ m := by cases a <;> rfl
theorem dol_len (a : Bool) (l : List UInt8) : (dol a l).length ≤ l.length + 1 := by cases a <;> simp [dol]
theorem sizeB (l : List UInt8) : (B l).size = l.length := B_size l
theorem print_body (k : Nat) (hk : 30 < k) (x : List UInt8) (hx : x.length ≤ 500) (s : ByteArray) (d : Int) (hd : 0 ≤ d ∧ d ≤ 3) (n c n2 c2 : Nat) (hn : n < 1073741824) (hc : c < 1073741824) (hn2 : n2 < 1073741824) (hc2 : c2 < 1073741824) (a b a2 b2 : Bool) :
    cellref_Print.j0 k (B x) s d (n : Int) (c : Int) (n2 : Int) (c2 : Int) a b a2 b2 = some (B (x ++ bodyL d n c n2 c2 a b a2 b2 colL), 0) := by
  obtain ⟨k, rfl⟩ : ∃ q, k = q + 1 := ⟨k - 1, by omega⟩
  have l1 := Nat.le_trans (dol_len b (colL (c + 1))) (Nat.succ_le_succ (col_len c hc))
  have l2 := Nat.le_trans (dol_len a (Lib.decDigits (n + 1))) (Nat.succ_le_succ (dec_len10 n hn))
  have l3 := Nat.le_trans (dol_len b2 (colL (c2 + 1))) (Nat.succ_le_succ (col_len c2 hc2))
  have l4 := Nat.le_trans (dol_len a2 (Lib.decDigits (n2 + 1))) (Nat.succ_le_succ (dec_len10 n2 hn2))
  simp only [cellref_Print.j0]
  rw [col_f c k b (by omega) hc, col_f c2 k b2 (by omega) hc2, row_f n a hn, row_f n2 a2 hn2]
  simp only [Option.bind_some]
  unfold bodyL
  by_cases d0 : d = 0
  · rw [if_pos d0, if_pos d0, B_app, B_app, if_pos (by rw [B_size, B_size]; omega), if_pos (by rw [B_size, B_size, List.length_append]; omega), dol_app, List.append_assoc]
  · rw [if_neg d0, if_neg d0]
    by_cases d1 : d = 1
    · have e58 : (⟨#[58]⟩ : ByteArray) = B [58] := rfl
      rw [if_pos d1, if_pos d1, e58]
      simp only [B_app, B_size, List.length_append, List.length_cons, List.length_nil]
      rw [if_pos (by omega), if_pos (by omega), if_pos (by omega), if_pos (by omega), if_pos (by omega)]
      simp [dol_app]
    · rw [if_neg d1, if_neg d1]
      have e58 : (⟨#[58]⟩ : ByteArray) = B [58] := rfl
      by_cases d2 : d = 2
      · rw [if_pos d2, if_pos d2, e58]
        simp only [B_app, B_size, List.length_append, List.length_cons, List.length_nil]
        rw [if_pos (by omega), if_pos (by omega), if_pos (by omega)]
        simp
      · have d3 : d = 3 := by omega
        rw [if_neg d2, if_neg d2, if_pos d3, e58]
        simp only [B_app, B_size, List.length_append, List.length_cons, List.length_nil]
        rw [if_pos (by omega), if_pos (by omega), if_pos (by omega)]
        simp
theorem check_up (s : ByteArray) (d n c n2 c2 : Int) (a b a2 b2 : Bool) (e : Int) (h : cellref_Check.f 203 s d n c n2 c2 a b a2 b2 = some e) : ∀ q, cellref_Check.f (203 + q) s d n c n2 c2 a b a2 b2 = some e
  | 0 => h
  | q + 1 => cellref_Check.mono s d n c n2 c2 a b a2 b2 (203 + q) e (check_up s d n c n2 c2 a b a2 b2 e h q)
theorem check_k (k : Nat) (hk : 1000 < k) (s : ByteArray) (d n c n2 c2 : Int) (a b a2 b2 : Bool) : ∃ e : Int, cellref_Check.f k s d n c n2 c2 a b a2 b2 = some e ∧ (e = 0 ↔ Good s d n c n2 c2 a b a2 b2) := by
  obtain ⟨e, he, hi⟩ := check_iff s d n c n2 c2 a b a2 b2
  have := check_up s d n c n2 c2 a b a2 b2 e he (k - 203)
  rw [show 203 + (k - 203) = k by omega] at this
  exact ⟨e, this, hi⟩
theorem check_good (k : Nat) (hk : 1000 < k) {s : ByteArray} {d n c n2 c2 : Int} {a b a2 b2 : Bool} (h : Good s d n c n2 c2 a b a2 b2) : cellref_Check.f k s d n c n2 c2 a b a2 b2 = some 0 := by
  obtain ⟨e, he, hi⟩ := check_k k hk s d n c n2 c2 a b a2 b2
  rw [hi.2 h] at he
  exact he
theorem replace_f (s : ByteArray) (hs : s.size ≤ 200) : strings_ReplaceAll.f s ⟨#[39]⟩ ⟨#[39, 39]⟩ = some (B (dbl s.data.toList)) := by
  have h1 : (ByteArray.mk #[39]).size = 1 := rfl
  have h2 : (ByteArray.mk #[39, 39]).size = 2 := rfl
  have hc := Lib.countB_le ⟨#[39]⟩ (by rw [h1]; exact Nat.le_refl _) s.size s (Nat.le_refl _)
  unfold strings_ReplaceAll.f
  rw [h1, h2, if_pos ⟨by omega, Nat.le_refl _, by omega⟩]
  show some (B (Lib.replaceAll s.data.toList [39] [39, 39])) = _
  rw [replace_dbl]
theorem print_text (k : Nat) (hk : 1000 < k) (s : ByteArray) (hs : s.size ≤ 200) (d : Int) (hd : 0 ≤ d ∧ d ≤ 3) (n c n2 c2 : Nat) (hn : n < 1073741824) (hc : c < 1073741824) (hn2 : n2 < 1073741824) (hc2 : c2 < 1073741824) (a b a2 b2 : Bool) (p : Bool) (hp : cellref_Plain.f k s = some p) (hg : Good s d n c n2 c2 a b a2 b2) :
    cellref_Print.f k s d (n : Int) (c : Int) (n2 : Int) (c2 : Int) a b a2 b2 = some (B (preL s.data.toList p ++ bodyL d n c n2 c2 a b a2 b2 colL), 0) := by
  have hsl : s.data.toList.length ≤ 200 := by rw [Array.length_toList]; exact hs
  have hpl := preL_len s.data.toList p
  have hdl := dbl_len s.data.toList
  have hb := print_body k (by omega) (preL s.data.toList p) (by omega) s d hd n c n2 c2 hn hc hn2 hc2 a b a2 b2
  unfold cellref_Print.f
  rw [check_good k hk hg, Option.bind_some, if_pos rfl]
  by_cases h0 : s.data.toList = []
  · have : preL s.data.toList p = [] := by unfold preL; rw [if_pos h0]
    rw [this] at hb ⊢
    rw [if_pos (by rw [ByteArray.toList_eq]; exact h0)]
    exact hb
  · rw [if_neg (by rw [ByteArray.toList_eq]; exact h0), if_pos (by omega), hp, Option.bind_some]
    cases p
    · rw [if_neg (by decide), replace_f s hs, Option.bind_some]
      have e1 : (⟨#[39]⟩ : ByteArray) = B [39] := rfl
      have e2 : (⟨#[39, 33]⟩ : ByteArray) = B [39, 33] := rfl
      rw [e1, e2]
      simp only [B_app, B_size, List.length_append, List.length_cons, List.length_nil]
      rw [if_pos (by omega), if_pos (by omega)]
      have : preL s.data.toList false = [39] ++ dbl s.data.toList ++ [39, 33] := by unfold preL; rw [if_neg h0]; simp
      rw [this] at hb
      rw [hb, this]
    · rw [if_pos rfl]
      have e1 : s ++ (⟨#[33]⟩ : ByteArray) = B (s.data.toList ++ [33]) := B_app s.data.toList [33]
      have : preL s.data.toList true = s.data.toList ++ [33] := by unfold preL; rw [if_neg h0]; simp
      rw [this] at hb
      rw [e1, hb, this]
end Go.Proofs.YtefhcgnamfnkbaaDoor.Pure
