/- A reference is read from its text, as plain functions. -/
import Derived.Test.YtefhcgnamfnkbaaDoorPureText
import Derived.Test.YtefhcgnamfnkbaaDoorParseF
import Derived.Test.YtefhcgnamfnkbaaDoorPrx5
import Derived.Test.YtefhcgnamfnkbaaDoorPureRefColumnsBack
import Derived.Test.YtefhcgnamfnkbaaDoorPureRefCopiedBack
namespace Go.Proofs.YtefhcgnamfnkbaaDoor.Pure
open Go.RowKit Go.Proofs.YtefhcgnamfnkbaaDoor.Pr Go.Proofs.YtefhcgnamfnkbaaDoorW.PrintWords Go.Proofs.YtefhcgnamfnkbaaDoorW.PrintLast
open Go.Proofs.YtefhcgnamfnkbaaDoor

/-- The bytes of a list. -/
abbrev B (l : List UInt8) : ByteArray := ⟨l.toArray⟩
theorem B_app (l m : List UInt8) : B l ++ B m = B (l ++ m) := bytes_eq (by rw [dat_append])
theorem B_size (l : List UInt8) : (B l).size = l.length := by show l.toArray.size = _; simp
theorem B_list (l : List UInt8) : (B l).toList = l := by rw [ByteArray.toList_eq]
theorem B_data (l : List UInt8) : (B l).data.toList = l := rfl
theorem B_self (s : ByteArray) : B s.data.toList = s := rfl
theorem B_noL (l : List UInt8) : noL (B l) = l.isEmpty := by unfold noL; rw [B_list]
theorem bt_B (l : List UInt8) (i : Nat) (h : i < l.length) : bt (B l) (i : Int) = ((l[i]).toNat : Int) := by
  unfold bt
  rw [dif_pos (show ((i : Int)).toNat < (B l).size from by rw [B_size]; simpa using h)]
  rfl

/-! ### Letters and numerals -/
theorem letters_cap (j : Nat) : ∀ (m k : Nat) (x : ByteArray), m ≤ capL j → j < k → m ≤ 2000000000 → x.size + j ≤ 4000000000 →
    cellref_letters.l0 k x (m : Int) = some ⟨(colL m ++ x.data.toList).toArray⟩ := by
  induction j with
  | zero =>
    intro m k x hm hk _ _
    obtain rfl : m = 0 := by simpa [capL] using hm
    obtain ⟨k, rfl⟩ : ∃ q, k = q + 1 := ⟨k - 1, by omega⟩
    simp only [cellref_letters.l0]
    rw [if_neg (by omega), colL_zero]
    simp
  | succ j ih =>
    intro m k x hm hk hm2 hx
    obtain ⟨k, rfl⟩ : ∃ q, k = q + 1 := ⟨k - 1, by omega⟩
    simp only [cellref_letters.l0]
    by_cases h0 : m = 0
    · subst h0
      rw [if_neg (by omega), colL_zero]
      simp
    · rw [if_pos (by omega)]
      have w1 : wrap64 ((m : Int) - 1) = ((m - 1 : Nat) : Int) := by unfold wrap64; omega
      rw [w1, Int.tmod_eq_emod_of_nonneg (by omega), Int.tdiv_eq_ediv_of_nonneg (by omega)]
      have w2 : wrap64 (((m - 1 : Nat) : Int) / 26) = (((m - 1) / 26 : Nat) : Int) := by unfold wrap64; omega
      have w3 : ((m - 1 : Nat) : Int) % 26 = (((m - 1) % 26 : Nat) : Int) := by omega
      rw [w2, w3]
      simp only [Option.bind_some]
      rw [chr_one ((m - 1) % 26) (by omega)]
      rw [if_pos (by show 1 + x.size ≤ _; omega)]
      simp only [capL] at hm
      rw [ih ((m - 1) / 26) k _ (by omega) (by omega) (by omega) (by rw [ByteArray.size_append]; show 1 + x.size + _ ≤ _; omega)]
      congr 3
      rw [colL_pos m h0]
      simp
theorem cap7 : capL 7 = 8353082582 := rfl
theorem le_cap7 (m : Nat) (h : m < 1073741824) : m + 1 ≤ capL 7 := by rw [cap7]; omega
theorem letters_k (m k : Nat) (hk : 7 < k) (hm : m < 1073741824) : cellref_letters.f k (m : Int) = some (B (colL (m + 1))) := by
  unfold cellref_letters.f
  have w : wrap64 ((m : Int) + 1) = ((m + 1 : Nat) : Int) := by unfold wrap64; omega
  rw [w, letters_cap 7 (m + 1) k _ (le_cap7 m hm) hk (by omega) (by show 0 + _ ≤ _; omega)]
  simp
theorem dollar_f (a : Bool) (l : List UInt8) (h : l.length ≤ 1000) : cellref_dollar.f a (B l) = some (B (dol a l)) := by
  unfold cellref_dollar.f
  cases a
  · rfl
  · rw [if_pos rfl, if_pos (by rw [B_size]; omega)]
    exact congrArg some (B_app [36] l)
theorem col_len (m : Nat) (hm : m < 1073741824) : (colL (m + 1)).length ≤ 7 := colL_cap 7 (m + 1) (le_cap7 m hm)
theorem col_ne (m : Nat) : colL (m + 1) ≠ [] := by rw [colL_pos _ (by omega)]; simp
theorem col_let (m : Nat) : ∀ c ∈ colL m, isL c = true := fun c h => (isL_bounds c).2 (.inl (colL_bytes m c h))
theorem dec_len10 (m : Nat) (hm : m < 1073741824) : (Lib.decDigits (m + 1)).length ≤ 10 := dec_len 9 (m + 1) (by rw [show (10 : Nat) ^ (9 + 1) = 10000000000 from rfl]; omega)
theorem dec_ne (m : Nat) : Lib.decDigits (m + 1) ≠ [] := by
  obtain ⟨c, r, e, _⟩ := dec_head (m + 1) (by omega)
  rw [e]; simp
theorem dec_48 (m : Nat) : (Lib.decDigits (m + 1)).head? ≠ some 48 := by
  obtain ⟨c, r, e, hc⟩ := dec_head (m + 1) (by omega)
  rw [e]; simpa using hc
theorem col_f (m k : Nat) (a : Bool) (hk : 7 < k) (hm : m < 1073741824) : cellref_col.f k (m : Int) a = some (B (dol a (colL (m + 1)))) := by
  unfold cellref_col.f
  rw [letters_k m k hk hm, Option.bind_some, dollar_f a _ (Nat.le_trans (col_len m hm) (by decide)), Option.bind_some]
theorem itoa_f (m : Nat) (hm : m < 1073741824) : strconv_Itoa.f (wrap64 ((m : Int) + 1)) = some (B (Lib.decDigits (m + 1))) := by
  have w : wrap64 ((m : Int) + 1) = ((m + 1 : Nat) : Int) := by unfold wrap64; omega
  unfold strconv_Itoa.f
  rw [w, if_pos (by omega), if_pos (by omega), Lib.itoa_nonneg]
theorem row_f (m : Nat) (a : Bool) (hm : m < 1073741824) : cellref_row.f (m : Int) a = some (B (dol a (Lib.decDigits (m + 1)))) := by
  unfold cellref_row.f
  rw [itoa_f m hm, Option.bind_some, dollar_f a _ (Nat.le_trans (dec_len10 m hm) (by decide)), Option.bind_some]
theorem Column_low (L : List UInt8) (hL : ∀ c ∈ L, isL c = true) (h7 : L.length ≤ 1000) : ∀ (k : Nat) (a : Int) (i : Nat), cellref_Column.l0 k (B (Lib.toLowerA L)) a (L.length : Int) (i : Int) = cellref_Column.l0 k (B L) a (L.length : Int) (i : Int) := by
  have hlen : (Lib.toLowerA L).length = L.length := by simp [Lib.toLowerA]
  intro k
  induction k with
  | zero => intro a i; rfl
  | succ k ih =>
    intro a i
    simp only [cellref_Column.l0]
    by_cases h2 : i < L.length
    · have g1 : (i : Int) < (L.length : Int) := by omega
      have g2 : (0 : Int) ≤ (i : Int) := by omega
      have g3 : (i : Int) < ((B (Lib.toLowerA L)).size : Int) := by rw [B_size, hlen]; exact g1
      have g4 : (i : Int) < ((B L).size : Int) := by rw [B_size]; exact g1
      rw [if_pos g1, if_pos g1, if_pos g2, if_pos g2, if_pos g3, if_pos g4]
      have e1 := bt_B (Lib.toLowerA L) i (by omega)
      have e2 := bt_B L i h2
      have e3 : (Lib.toLowerA L)[i]'(by omega) = Lib.lowerB L[i] := by simp [Lib.toLowerA]
      rw [e3] at e1
      have hc := hL L[i] (List.getElem_mem h2)
      have hl := low_let L[i] hc
      rw [e1, e2, letter_isL, letter_isL, hl.1, hc, hl.2]
      have w : wrap64 ((i : Int) + 1) = ((i + 1 : Nat) : Int) := by unfold wrap64; omega
      simp only [Option.bind_some, if_true]
      rw [w]
      exact ih _ _
    · have g1 : ¬ (i : Int) < (L.length : Int) := by omega
      rw [if_neg g1, if_neg g1]
theorem Column_lower (L : List UInt8) (hL : ∀ c ∈ L, isL c = true) (h7 : L.length ≤ 1000) (k : Nat) : cellref_Column.f k (B (Lib.toLowerA L)) = cellref_Column.f k (B L) := by
  have hlen : (Lib.toLowerA L).length = L.length := by simp [Lib.toLowerA]
  have hl : ∀ x12, cellref_Column.j0 k (B (Lib.toLowerA L)) x12 = cellref_Column.j0 k (B L) x12 := by
    intro x12
    cases k with
    | zero => rfl
    | succ k =>
      simp only [cellref_Column.j0]
      have := Column_low L hL h7 k 0 0
      rw [B_size, B_size, hlen]
      rw [show ((0 : Nat) : Int) = 0 from rfl] at this
      rw [this]
  unfold cellref_Column.f
  rw [hl, hl, show (B (Lib.toLowerA L)).size = (B L).size from by rw [B_size, B_size, hlen], B_list, B_list]
  cases L with
  | nil => rfl
  | cons c r => rw [if_neg (by simp [Lib.toLowerA]), if_neg (by simp)]

/-! ### The values of a corner -/
theorem atoi_f (m : Nat) (hm : m < 1073741824) : strconv_Atoi.f (B (Lib.decDigits (m + 1))) = some (((m + 1 : Nat) : Int), none) := by
  unfold strconv_Atoi.f
  have := dec_len10 m hm
  rw [if_pos (by rw [B_size]; omega), B_data, atoi_dec (m + 1) (by omega)]
theorem wr_back (m : Nat) (hm : m < 1073741824) : wrap64 (((m + 1 : Nat) : Int) - 1) = (m : Int) := by unfold wrap64; omega
/-- Letters that stand for column m. -/
def IsCol (L : List UInt8) (m : Nat) : Prop := (∀ c ∈ L, isL c = true) ∧ L ≠ [] ∧ L.length ≤ 7 ∧ ∀ k, 20 < k → cellref_Column.f k (B L) = some ((m : Int), 0)
theorem isCol_up (m : Nat) (hm : m < 1073741824) : IsCol (colL (m + 1)) m := ⟨col_let _, col_ne m, col_len m hm, fun k hk => Column_f m k hk hm⟩
theorem isCol_low {L : List UInt8} {m : Nat} (h : IsCol L m) : IsCol (Lib.toLowerA L) m :=
  ⟨low_lets L h.1, by have := h.2.1; simpa [Lib.toLowerA] using this, by simpa [Lib.toLowerA] using h.2.2.1, fun k hk => by rw [Column_lower L h.1 (by have := h.2.2.1; omega)]; exact h.2.2.2 k hk⟩
theorem values_cell (k m n : Nat) (L : List UInt8) (a b : Bool) (hk : 30 < k) (hL : IsCol L m) (hn : n < 1073741824) :
    cellref_corner_values.f k (B L) (B (Lib.decDigits (n + 1))) a b = some ((n : Int), (m : Int), 0) := by
  obtain ⟨k, rfl⟩ : ∃ q, k = q + 1 := ⟨k - 1, by omega⟩
  unfold cellref_corner_values.f
  rw [B_list, if_neg (dec_ne n), atoi_f n hn, Option.bind_some, wr_back n hn]
  simp only [cellref_corner_values.j0]
  rw [B_list, if_neg hL.2.1, hL.2.2.2 k (by omega), Option.bind_some, if_pos rfl, if_neg (by omega)]
theorem values_row (k n : Nat) (a b : Bool) (hk : 30 < k) (hn : n < 1073741824) :
    cellref_corner_values.f k (B []) (B (Lib.decDigits (n + 1))) a b = some ((n : Int), 0, 0) := by
  obtain ⟨k, rfl⟩ : ∃ q, k = q + 1 := ⟨k - 1, by omega⟩
  unfold cellref_corner_values.f
  rw [B_list, if_neg (dec_ne n), atoi_f n hn, Option.bind_some, wr_back n hn]
  simp only [cellref_corner_values.j0]
  rw [B_list, if_pos rfl, if_pos trivial, if_neg (by omega)]
theorem values_col (k m : Nat) (L : List UInt8) (a b : Bool) (hk : 30 < k) (hL : IsCol L m) :
    cellref_corner_values.f k (B L) (B []) a b = some (0, (m : Int), 0) := by
  obtain ⟨k, rfl⟩ : ∃ q, k = q + 1 := ⟨k - 1, by omega⟩
  unfold cellref_corner_values.f
  rw [B_list, if_pos rfl]
  simp only [cellref_corner_values.j0]
  rw [B_list, if_neg hL.2.1, hL.2.2.2 k (by omega), Option.bind_some, if_pos rfl, if_neg (by omega)]
end Go.Proofs.YtefhcgnamfnkbaaDoor.Pure
