/- The letters of columns, as plain functions on numbers: what cellref.letters and cellref.Column compute, and that they count up. -/
import Derived.Test.YtefhcgnamfnkbaaDoorPrx2
import Derived.Test.YtefhcgnamfnkbaaDoorPrx4
import Derived.Test.YtefhcgnamfnkbaaDoorPrx6
import Derived.Test.YtefhcgnamfnkbaaDoorPrx7
namespace Go.Proofs.YtefhcgnamfnkbaaDoor.Pure
open Go.RowKit Go.Proofs.YtefhcgnamfnkbaaDoor.Pr Go.Proofs.YtefhcgnamfnkbaaDoorW.PrintWords Go.Proofs.YtefhcgnamfnkbaaDoorW.PrintLast
open Go.Proofs.YtefhcgnamfnkbaaDoor

/-- The letters of column n - 1. -/
def colL (n : Nat) : List UInt8 := if _h : n = 0 then [] else colL ((n - 1) / 26) ++ [(65 + (n - 1) % 26).toUInt8]
  termination_by n
  decreasing_by omega
theorem colL_zero : colL 0 = [] := by rw [colL]; rfl
theorem colL_pos (n : Nat) (h : n ≠ 0) : colL n = colL ((n - 1) / 26) ++ [(65 + (n - 1) % 26).toUInt8] := by rw [colL]; rw [dif_neg h]
theorem colL_len (n : Nat) : (colL n).length ≤ n := by
  induction n using Nat.strongRecOn with
  | _ n ih =>
    by_cases h : n = 0
    · subst h; rw [colL_zero]; exact Nat.le_refl _
    · rw [colL_pos n h, List.length_append]
      have := ih ((n - 1) / 26) (by omega)
      simp only [List.length_cons, List.length_nil]
      omega
def capL : Nat → Nat | 0 => 0 | j + 1 => 26 * capL j + 26
theorem colL_cap (j : Nat) : ∀ n, n ≤ capL j → (colL n).length ≤ j := by
  induction j with
  | zero => intro n h; obtain rfl : n = 0 := by simpa [capL] using h
            rw [colL_zero]; exact Nat.le_refl _
  | succ j ih =>
    intro n h
    simp only [capL] at h
    by_cases h0 : n = 0
    · subst h0; rw [colL_zero]; exact Nat.zero_le _
    · rw [colL_pos n h0, List.length_append]
      have := ih ((n - 1) / 26) (by omega)
      simp only [List.length_cons, List.length_nil]
      omega
/-- What Column adds up. -/
def valL (a : Nat) : List UInt8 → Nat
  | [] => a
  | c :: r => valL (26 * a + (c.toNat - 64)) r
theorem valL_append (l : List UInt8) (c : UInt8) : ∀ a, valL a (l ++ [c]) = 26 * valL a l + (c.toNat - 64) := by
  induction l with
  | nil => intro a; rfl
  | cons d r ih => intro a; exact ih _
theorem valL_ge (l : List UInt8) : ∀ a, a ≤ valL a l := by
  induction l with
  | nil => intro a; exact Nat.le_refl _
  | cons d r ih => intro a; exact Nat.le_trans (by omega) (ih (26 * a + (d.toNat - 64)))
theorem let_toNat (r : Nat) (h : r < 26) : ((65 + r).toUInt8).toNat = 65 + r := by
  have e : ((65 + r).toUInt8).toNat = (65 + r) % 256 := UInt8.toNat_ofNat'
  rw [e]
  exact Nat.mod_eq_of_lt (by omega)
theorem valL_colL (n : Nat) : valL 0 (colL n) = n := by
  induction n using Nat.strongRecOn with
  | _ n ih =>
    by_cases h : n = 0
    · subst h; rw [colL_zero]; rfl
    · rw [colL_pos n h, valL_append, ih _ (by omega), let_toNat _ (by omega)]
      omega
theorem colL_bytes (n : Nat) : ∀ c ∈ colL n, 65 ≤ c.toNat ∧ c.toNat ≤ 90 := by
  induction n using Nat.strongRecOn with
  | _ n ih =>
    intro c hc
    by_cases h : n = 0
    · subst h; rw [colL_zero] at hc; cases hc
    · rw [colL_pos n h, List.mem_append] at hc
      rcases hc with hc | hc
      · exact ih _ (by omega) c hc
      · obtain rfl := List.mem_singleton.1 hc
        rw [let_toNat _ (by omega)]
        omega

theorem less_append (l : List UInt8) (a b : UInt8) (h : a < b) : Op.bytesLess (l ++ [a]) (l ++ [b]) = true := by
  induction l with
  | nil => simp [Op.bytesLess, h]
  | cons c r ih => simp [Op.bytesLess, ih]
theorem less_more (x : List UInt8) : ∀ (y s t : List UInt8), x.length = y.length → Op.bytesLess x y = true → Op.bytesLess (x ++ s) (y ++ t) = true := by
  induction x with
  | nil => intro y s t hl h; cases y with | nil => simp [Op.bytesLess] at h | cons _ _ => simp at hl
  | cons a x ih =>
    intro y s t hl h
    cases y with
    | nil => simp at hl
    | cons b y =>
      simp only [Op.bytesLess, List.cons_append, Bool.or_eq_true, Bool.and_eq_true] at h ⊢
      rcases h with h | ⟨h1, h2⟩
      · exact .inl h
      · exact .inr ⟨h1, ih y s t (by simpa using hl) h2⟩
theorem colL_next (n : Nat) : (colL n).length < (colL (n + 1)).length ∨ (colL n).length = (colL (n + 1)).length ∧ Op.bytesLess (colL n) (colL (n + 1)) = true := by
  induction n using Nat.strongRecOn with
  | _ n ih =>
    by_cases h : n = 0
    · subst h
      rw [colL_pos 1 (by omega), colL_zero]
      left; simp
    · rw [colL_pos n h, colL_pos (n + 1) (by omega)]
      simp only [List.length_append, List.length_cons, List.length_nil]
      by_cases hm : (n - 1) % 26 = 25
      · have e1 : (n + 1 - 1) / 26 = (n - 1) / 26 + 1 := by omega
        rw [e1]
        rcases ih ((n - 1) / 26) (by omega) with hlt | ⟨he, hb⟩
        · left; omega
        · right; exact ⟨by omega, less_more _ _ _ _ he hb⟩
      · have e1 : (n + 1 - 1) / 26 = (n - 1) / 26 := by omega
        have e2 : (n + 1 - 1) % 26 = (n - 1) % 26 + 1 := by omega
        rw [e1, e2]
        right
        refine ⟨rfl, less_append _ _ _ ?_⟩
        rw [UInt8.lt_iff_toNat_lt, let_toNat _ (by omega), let_toNat _ (by omega)]
        omega

theorem chr_one (r : Nat) (h : r < 26) : strOfNums [(65 + ((r : Int) % 256)) % 256] = ⟨[(65 + r).toUInt8].toArray⟩ := by
  have e : ((65 + ((r : Int) % 256)) % 256).toNat = 65 + r := by omega
  unfold strOfNums
  simp only [List.map_cons, List.map_nil, e, Nat.toUInt8]

theorem letters_l0 (m : Nat) : ∀ (k : Nat) (x : ByteArray), m < k → m ≤ 2000000000 → x.size + m ≤ 4000000000 →
    cellref_letters.l0 k x (m : Int) = some ⟨(colL m ++ x.data.toList).toArray⟩ := by
  induction m using Nat.strongRecOn with
  | _ m ih =>
    intro k x hk hm hx
    obtain ⟨k, rfl⟩ : ∃ q, k = q + 1 := ⟨k - 1, by omega⟩
    simp only [cellref_letters.l0]
    by_cases h0 : m = 0
    · subst h0
      rw [if_neg (by omega), colL_zero]
      simp
    · rw [if_pos (by omega)]
      have w1 : wrap64 ((m : Int) - 1) = ((m - 1 : Nat) : Int) := by unfold wrap64; omega
      rw [w1, Int.tmod_eq_emod_of_nonneg (by omega), Int.tdiv_eq_ediv_of_nonneg (by omega)]
      have w2 : wrap64 (((m - 1 : Nat) : Int) / 26) = (((m - 1) / 26 : Nat) : Int) := by unfold wrap64; omega
      have w3 : ((m - 1 : Nat) : Int) % 26 = (((m - 1) % 26 : Nat) : Int) := by omega
      rw [w2, w3]
      simp only [Option.bind_some]
      rw [chr_one ((m - 1) % 26) (by omega)]
      rw [if_pos (by show 1 + x.size ≤ _; omega)]
      rw [ih ((m - 1) / 26) (by omega) k _ (by omega) (by omega) (by rw [ByteArray.size_append]; show 1 + x.size + _ ≤ _; omega)]
      congr 3
      rw [colL_pos m h0]
      simp

theorem letters_f (m k : Nat) (hk : m + 1 < k) (hm : m + 1 ≤ 2000000000) : cellref_letters.f k (m : Int) = some ⟨(colL (m + 1)).toArray⟩ := by
  unfold cellref_letters.f
  have w : wrap64 ((m : Int) + 1) = ((m + 1 : Nat) : Int) := by unfold wrap64; omega
  rw [w, letters_l0 (m + 1) k _ hk hm (by show 0 + _ ≤ _; omega)]
  simp
theorem Letters_f (m k : Nat) (hk : m + 1 < k) (hm : m < 1073741824) : cellref_Letters.f k (m : Int) = some (⟨(colL (m + 1)).toArray⟩, 0) := by
  unfold cellref_Letters.f cellref_permitted.f
  rw [if_pos (by omega), letters_f m k hk (by omega)]
  have : decide ((m : Int) < 1073741824) = true := decide_eq_true (by omega)
  simp only [Option.bind_some, this, if_true]

theorem and31 (c : Nat) (h1 : 65 ≤ c) (h2 : c ≤ 90) : Go.bits .and .u8 (c : Int) 31 = ((c - 64 : Nat) : Int) := by
  obtain ⟨d, rfl, hd⟩ : ∃ d : Nat, c = d + 65 ∧ d < 26 := ⟨c - 65, by omega, by omega⟩
  have : ∀ d : Fin 26, Go.bits .and .u8 ((d.val + 65 : Nat) : Int) 31 = ((d.val + 65 - 64 : Nat) : Int) := by decide +kernel
  exact this ⟨d, hd⟩
theorem letter_up (c : Nat) (h1 : 65 ≤ c) (h2 : c ≤ 90) : cellref_letter.f (c : Int) = some true := by
  unfold cellref_letter.f
  rw [if_pos (by omega), if_pos (by omega)]
theorem wr1 (a z V : Nat) (h : 26 * a + z ≤ V) (hV : (V : Int) ≤ 1073741824) : wrap64 (26 * (a : Int)) = ((26 * a : Nat) : Int) := by unfold wrap64; omega
theorem wr2 (z : Nat) (h : z ≤ 26) : wrap64 (z : Int) = (z : Int) := by unfold wrap64; omega
theorem wr3 (a z V : Nat) (h : 26 * a + z ≤ V) (hV : (V : Int) ≤ 1073741824) : wrap64 (((26 * a : Nat) : Int) + (z : Int)) = ((26 * a + z : Nat) : Int) := by unfold wrap64; omega
theorem wr4 (i : Nat) (h : i ≤ 1000) : wrap64 ((i : Int) + 1) = ((i + 1 : Nat) : Int) := by unfold wrap64; omega
theorem Column_l0 (l : List UInt8) (hb : ∀ c ∈ l, 65 ≤ c.toNat ∧ c.toNat ≤ 90) (hl : l.length ≤ 1000) (d : Nat) : ∀ (k i a : Nat), i + d = l.length → d < k →
    ((valL a (l.drop i) : Nat) : Int) ≤ 1073741824 → cellref_Column.l0 k ⟨l.toArray⟩ (a : Int) (l.length : Int) (i : Int) = some ((valL a (l.drop i) : Int) - 1, 0) := by
  induction d with
  | zero =>
    intro k i a hi hk hv
    obtain ⟨k, rfl⟩ : ∃ q, k = q + 1 := ⟨k - 1, by omega⟩
    have e : l.drop i = [] := List.drop_of_length_le (by omega)
    rw [e] at hv ⊢
    change ((a : Nat) : Int) ≤ 1073741824 at hv
    change _ = some ((a : Int) - 1, 0)
    simp only [cellref_Column.l0]
    rw [if_neg (by omega), if_neg (by omega)]
    have w : wrap64 ((a : Int) - 1) = (a : Int) - 1 := by unfold wrap64; omega
    rw [w]
  | succ d ih =>
    intro k i a hi hk hv
    obtain ⟨k, rfl⟩ : ∃ q, k = q + 1 := ⟨k - 1, by omega⟩
    have hlt : i < l.length := by omega
    rw [List.drop_eq_getElem_cons hlt] at hv ⊢
    have hbt : bt ⟨l.toArray⟩ (i : Int) = ((l[i]).toNat : Int) := by
      unfold bt
      rw [dif_pos (show ((i : Int)).toNat < (ByteArray.mk l.toArray).size from by show i < l.toArray.size; simpa using hlt)]
      rfl
    have hc := hb (l[i]) (List.getElem_mem hlt)
    simp only [cellref_Column.l0]
    rw [if_pos (by omega), if_pos (by omega), if_pos (by show (i : Int) < (l.toArray.size : Int); simp; exact hlt), hbt, letter_up _ hc.1 hc.2]
    simp only [Option.bind_some, if_true]
    have hv2 : ((valL (26 * a + ((l[i]).toNat - 64)) (l.drop (i + 1)) : Nat) : Int) ≤ 1073741824 := hv
    obtain ⟨V, hV⟩ : ∃ V : Nat, V = valL (26 * a + ((l[i]).toNat - 64)) (l.drop (i + 1)) := ⟨_, rfl⟩
    have hvV : (V : Int) ≤ 1073741824 := by rw [hV]; exact hv2
    have hge := valL_ge (l.drop (i + 1)) (26 * a + ((l[i]).toNat - 64))
    rw [← hV] at hge
    clear hv
    obtain ⟨z, hz⟩ : ∃ z : Nat, z = (l[i]).toNat - 64 := ⟨_, rfl⟩
    have hz26 : z ≤ 26 := by omega
    rw [← hz] at hge hv2
    rw [and31 _ hc.1 hc.2, ← hz]
    clear hV
    have w1 := wr1 a z V hge hvV
    have w2 := wr2 z hz26
    have w3 := wr3 a z V hge hvV
    have w4 := wr4 i (by omega)
    rw [w1, w2, w3, w4]
    have h := ih k (i + 1) (26 * a + z) (by omega) (by omega) hv2
    rw [h, show valL a (l[i] :: l.drop (i + 1)) = valL (26 * a + z) (l.drop (i + 1)) from by rw [hz]; rfl]
theorem Column_f (m k : Nat) (hk : 20 < k) (hm : m < 1073741824) : cellref_Column.f k ⟨(colL (m + 1)).toArray⟩ = some ((m : Int), 0) := by
  have hlen : (colL (m + 1)).length ≤ 7 := colL_cap 7 (m + 1) (by show m + 1 ≤ 8353082582; omega)
  have hne : colL (m + 1) ≠ [] := by rw [colL_pos _ (by omega)]; simp
  have hsz : ((ByteArray.mk (colL (m + 1)).toArray).size : Int) = (colL (m + 1)).length := by show (((colL (m + 1)).toArray.size : Nat) : Int) = _; simp
  unfold cellref_Column.f
  rw [if_neg (by rw [ByteArray.toList_eq]; simpa using hne), hsz]
  have : decide (((colL (m + 1)).length : Int) > 7) = false := decide_eq_false (by omega)
  rw [this]
  obtain ⟨k, rfl⟩ : ∃ q, k = q + 1 := ⟨k - 1, by omega⟩
  simp only [cellref_Column.j0, Bool.false_eq_true, if_false]
  rw [hsz]
  have h := Column_l0 (colL (m + 1)) (colL_bytes _) (by omega) (colL (m + 1)).length k 0 0 (by omega) (by omega) (by rw [List.drop_zero, valL_colL]; omega)
  rw [List.drop_zero, valL_colL] at h
  simp only [Int.natCast_zero] at h
  rw [h]
  congr 2
  omega

theorem refs_true : chancerykeep2_refs.f = some true := rfl
theorem wr5 (m : Nat) (h : (m : Int) < 1073741823) : wrap64 ((m : Int) + 1) = ((m + 1 : Nat) : Int) := by unfold wrap64; omega
theorem lt5 (m : Nat) (h : (m : Int) < 1073741823) : m < 1073741824 := by omega
theorem lt6 (m : Nat) (h : (m : Int) < 1073741823) : m + 1 < 1073741824 := by omega
theorem mod_arith (m x y : Int) (hm2 : m ≤ 4611686018427387904) (h1 : x < m) (h2 : -m < x) (h3 : y < m) (h4 : 0 ≤ y) : wrap64 (x + m) = x + m ∧ 0 ≤ x + m ∧ (y.toNat : Int) = y ∧ (y.toNat : Int) < m := by
  unfold wrap64; omega
theorem mod_f (n : Int) (m : Int) (hm : 0 < m) (hm2 : m ≤ 4611686018427387904) : ∃ r : Nat, chancerykeep2_mod.f n m = some (r : Int) ∧ (r : Int) < m := by
  have h1 := Int.tmod_lt_of_pos n hm
  have h2 := Int.lt_tmod_of_pos n hm
  have hz : ¬ m = 0 := fun e => by rw [e] at hm; exact absurd hm (by decide)
  unfold chancerykeep2_mod.f
  rw [if_neg hz]
  have h3 := Int.tmod_lt_of_pos (n.tmod m + m) hm
  have ha := mod_arith m (n.tmod m) 0 hm2 h1 h2 hm (by decide)
  have h4 : 0 ≤ (n.tmod m + m).tmod m := Int.tmod_nonneg _ ha.2.1
  have hb := mod_arith m (n.tmod m) ((n.tmod m + m).tmod m) hm2 h1 h2 h3 h4
  rw [ha.1]
  exact ⟨((n.tmod m + m).tmod m).toNat, by rw [hb.2.2.1], hb.2.2.2⟩

theorem sz_list (l : List UInt8) : ((ByteArray.mk l.toArray).size : Int) = l.length := by show ((l.toArray.size : Nat) : Int) = _; simp

theorem back (n : Int) (m K : Nat) (hm : chancerykeep2_mod.f n 1073741823 = some (m : Int)) (hlt : (m : Int) < 1073741823) (hK : m + 103 ≤ K) (hr : chancerykeep2_refs.f = some true) :
    chancerykeep2_RefColumnsBack.f K n = some true := by
  have hA := Letters_f m K (by omega) (lt5 m hlt)
  have hB := Letters_f (m + 1) K (by omega) (lt6 m hlt)
  have hC := Column_f m K (by omega) (lt5 m hlt)
  have w := wr5 m hlt
  have hn := colL_next (m + 1)
  obtain ⟨X, hX⟩ : ∃ X, cellref_Letters.f K (wrap64 ((m : Int) + 1)) = X := ⟨_, rfl⟩
  rw [w, hB] at hX
  subst hX
  have hE : (if (((ByteArray.mk (colL (m + 1)).toArray).size : Int) < ((ByteArray.mk (colL (m + 1 + 1)).toArray).size : Int)) then some true else (if (((ByteArray.mk (colL (m + 1)).toArray).size : Int) = ((ByteArray.mk (colL (m + 1 + 1)).toArray).size : Int)) then (some (Op.bytesLess (ByteArray.mk (colL (m + 1)).toArray).toList (ByteArray.mk (colL (m + 1 + 1)).toArray).toList)) else (some false))) = some true := by
    rw [sz_list, sz_list]
    rcases hn with h | ⟨h1, h2⟩
    · rw [if_pos (by omega)]
    · rw [if_neg (by omega), if_pos (by omega), ByteArray.toList_eq, ByteArray.toList_eq, h2]
  unfold chancerykeep2_RefColumnsBack.f
  rw [hr, Option.bind_some, if_pos rfl, hm, Option.bind_some, hA, Option.bind_some, w, hB, Option.bind_some, hC, Option.bind_some, if_pos rfl, if_pos rfl, if_pos rfl, if_pos rfl]
  exact hE

theorem RefColumnsBack : chancerykeep2_RefColumnsBack.Pure := by
  intro n _
  obtain ⟨m, hm, hlt⟩ := mod_f n 1073741823 (by decide) (by decide)
  exact ⟨m + 103, back n m (m + 103) hm hlt (Nat.le_refl _) refs_true⟩

end Go.Proofs.YtefhcgnamfnkbaaDoor.Pure
