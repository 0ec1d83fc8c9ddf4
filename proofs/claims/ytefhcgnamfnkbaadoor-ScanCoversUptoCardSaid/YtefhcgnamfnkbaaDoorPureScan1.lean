/- The tokens of a formula, on lists of bytes. -/
import Derived.Test.YtefhcgnamfnkbaaDoorScanBase
import Derived.Test.YtefhcgnamfnkbaaDoorNext
namespace Go.Proofs.YtefhcgnamfnkbaaDoor.Pure
open Go.RowKit Go.Proofs.YtefhcgnamfnkbaaDoor.Pr Go.Proofs.YtefhcgnamfnkbaaDoorW.PrintWords Go.Proofs.YtefhcgnamfnkbaaDoorW.PrintLast
open Go.Proofs.YtefhcgnamfnkbaaDoor

/-! ### Bytes -/
theorem ex_drop (l : List UInt8) (a : Nat) : (B l).extract a (B l).size = B (l.drop a) := by
  refine bytes_eq ?_
  rw [Lib.extract_data, B_size, B_data, List.take_of_length_le]
  rw [List.length_drop]; exact Nat.le_refl _
theorem ex_take (l : List UInt8) (a : Nat) : (B l).extract 0 a = B (l.take a) := by
  refine bytes_eq ?_
  rw [Lib.extract_data, B_data, List.drop_zero]; rfl
theorem ex_mid (l : List UInt8) (a b : Nat) : (B l).extract a b = B ((l.drop a).take (b - a)) := by
  refine bytes_eq ?_
  rw [Lib.extract_data, B_data]
theorem btq (l : List UInt8) (i : Nat) (h : i < l.length) (d : UInt8) : (bt (B l) (i : Int) = (d.toNat : Int)) ↔ l[i]? = some d := by
  rw [bt_B l i h, List.getElem?_eq_getElem h, Option.some.injEq]
  constructor
  · intro e; exact UInt8.toNat_inj.1 (by omega)
  · rintro rfl; rfl
theorem btb (l : List UInt8) (i : Nat) (h : i < l.length) (d : UInt8) : (bt (B l) (i : Int) == (d.toNat : Int)) = decide (l[i]? = some d) := by
  rw [Bool.eq_iff_iff, beq_iff_eq, decide_eq_true_eq]
  exact btq l i h d
theorem btn (l : List UInt8) (i : Nat) (h : i < l.length) (d : UInt8) : (bt (B l) (i : Int) != (d.toNat : Int)) = !decide (l[i]? = some d) := by
  show (!(bt (B l) (i : Int) == (d.toNat : Int))) = _
  rw [btb l i h d]
theorem wr_n (i : Nat) (h : i ≤ 4000000) : wrap64 (i : Int) = (i : Int) := by unfold wrap64; omega
theorem wr_a (i j : Nat) (h : i + j ≤ 8000000) : wrap64 ((i : Int) + (j : Int)) = ((i + j : Nat) : Int) := by unfold wrap64; omega
theorem wr_1 (i : Nat) (h : i ≤ 4000000) : wrap64 ((i : Int) + 1) = ((i + 1 : Nat) : Int) := by unfold wrap64; omega
/-- How many bytes at the beginning have p. -/
def rn (p : UInt8 → Bool) (l : List UInt8) : Nat := (l.takeWhile p).length
theorem rn_le (p : UInt8 → Bool) (l : List UInt8) : rn p l ≤ l.length := (List.takeWhile_sublist p).length_le
theorem run_eq (p : UInt8 → Bool) (l : List UInt8) (hl : l.length ≤ 4000000) : runP p (B l) = some ((rn p l : Nat) : Int) := by
  unfold runP
  rw [if_pos (by rw [B_size]; omega), B_data]; rfl

/-! ### What is a reference -/
def PR (l : List UInt8) : Bool := match cellref_Parse.f 1001 (B l) with | some q => q.2.2.2.2.2.2.2.2.2.2 == 0 | none => false
theorem parse_up (s : ByteArray) (q : RefE) (h : cellref_Parse.f 1001 s = some q) : ∀ d, cellref_Parse.f (1001 + d) s = some q
  | 0 => h
  | d + 1 => cellref_Parse.mono s (1001 + d) q (parse_up s q h d)
theorem isRef_eq (k : Nat) (hk : 1001 ≤ k) (l : List UInt8) : fscan_isRef.f k (B l) = some (PR l) := by
  obtain ⟨q, hq⟩ := parse_total 1001 (by decide) (B l)
  have hu := parse_up (B l) q hq (k - 1001)
  rw [show 1001 + (k - 1001) = k by omega] at hu
  unfold fscan_isRef.f PR
  rw [hu, hq]
  rfl
def areaK (l : List UInt8) (p : Nat) : Nat := p + 1 + rn isK (l.drop (p + 1))
def areaL (l : List UInt8) (p : Nat) : Nat :=
  if l[p]? = some 58 ∧ PR (l.take (areaK l p)) = true then areaK l p else if PR (l.take p) = true then p else 0
theorem areaK_le (l : List UInt8) (p : Nat) (h : p < l.length) : areaK l p ≤ l.length := by
  have := rn_le isK (l.drop (p + 1))
  rw [List.length_drop] at this
  unfold areaK; omega
theorem area_j0 (k : Nat) (hk : 1002 ≤ k) (l : List UInt8) (hl : l.length ≤ 2000000) (p : Nat) (hp : p ≤ l.length) (b : Bool) (hb : b = decide (l[p]? = some 58)) :
    fscan_area.j0 k (B l) (p : Int) b = some ((areaL l p : Nat) : Int) := by
  obtain ⟨k, rfl⟩ : ∃ q, k = q + 1 := ⟨k - 1, by omega⟩
  have tail : (if (0 : Int) ≤ (p : Int) then (if (p : Int) ≤ ((B l).size : Int) then ((fscan_isRef.f k ((B l).extract 0 ((p : Int)).toNat)).bind fun t118 => (if t118 = true then (some (p : Int)) else (some 0))) else (none)) else (none)) = some (if PR (l.take p) = true then (p : Int) else 0) := by
    rw [if_pos (by omega), if_pos (by rw [B_size]; omega), Int.toNat_natCast, ex_take, isRef_eq k (by omega), Option.bind_some]
    split <;> rfl
  simp only [fscan_area.j0]
  by_cases hc : l[p]? = some 58
  · have hlt : p < l.length := by
      rcases Nat.lt_or_ge p l.length with h | h
      · exact h
      · rw [List.getElem?_eq_none h] at hc; cases hc
    have hkl := areaK_le l p hlt
    have hd : (l.drop (p + 1)).length ≤ 4000000 := by rw [List.length_drop]; omega
    have hw : wrap64 (((p + 1 : Nat) : Int) + ((rn isK (l.drop (p + 1)) : Nat) : Int)) = ((areaK l p : Nat) : Int) := wr_a _ _ (by unfold areaK at hkl; omega)
    rw [hb, if_pos (decide_eq_true hc), wr_1 p (by omega), if_pos (by omega), if_pos (by rw [B_size]; omega), Int.toNat_natCast, ex_drop]
    show ((runP isK (B (l.drop (p + 1)))).bind _) = _
    rw [run_eq isK _ hd, Option.bind_some, hw, if_pos (by omega), if_pos (by rw [B_size]; omega), Int.toNat_natCast, ex_take, isRef_eq k (by omega), Option.bind_some, tail]
    unfold areaL
    by_cases h1 : PR (l.take (areaK l p)) = true
    · rw [if_pos h1, if_pos ⟨hc, h1⟩]
    · rw [if_neg h1, if_neg (show ¬ (l[p]? = some 58 ∧ PR (l.take (areaK l p)) = true) from fun h => h1 h.2)]
      split <;> rfl
  · rw [hb, if_neg (by simp [hc]), tail]
    unfold areaL
    rw [if_neg (show ¬ (l[p]? = some 58 ∧ PR (l.take (areaK l p)) = true) from fun h => hc h.1)]
    split <;> rfl
theorem area_eq (k : Nat) (hk : 1002 ≤ k) (l : List UInt8) (hl : l.length ≤ 2000000) (p : Nat) (hp : p ≤ l.length) : fscan_area.f k (B l) (p : Int) = some ((areaL l p : Nat) : Int) := by
  unfold fscan_area.f
  by_cases h : p < l.length
  · rw [if_pos (by rw [B_size]; omega), if_pos (by omega)]
    exact area_j0 k hk l hl p hp _ (btb l p h 58)
  · rw [if_neg (by rw [B_size]; omega)]
    exact area_j0 k hk l hl p hp false (by rw [List.getElem?_eq_none (by omega)]; rfl)
def sheetedL (l : List UInt8) (n : Nat) : Nat := if l[n]? = some 33 then areaL l (areaK l n) else 0
theorem sheeted_eq (k : Nat) (hk : 1003 ≤ k) (l : List UInt8) (hl : l.length ≤ 2000000) (n : Nat) (hn : n ≤ l.length) : fscan_sheeted.f k (B l) (n : Int) = some ((sheetedL l n : Nat) : Int) := by
  obtain ⟨k, rfl⟩ : ∃ q, k = q + 1 := ⟨k - 1, by omega⟩
  unfold fscan_sheeted.f sheetedL
  by_cases h : n < l.length
  · rw [if_neg (by rw [B_size]; omega), if_pos (by omega), if_pos (by rw [B_size]; omega)]
    have e : (bt (B l) (n : Int) != 33) = !decide (l[n]? = some 33) := btn l n h 33
    rw [e]
    simp only [fscan_sheeted.j0]
    by_cases hc : l[n]? = some 33
    · have hkl := areaK_le l n h
      have hd : (l.drop (n + 1)).length ≤ 4000000 := by rw [List.length_drop]; omega
      have hw : wrap64 (((n + 1 : Nat) : Int) + ((rn isK (l.drop (n + 1)) : Nat) : Int)) = ((areaK l n : Nat) : Int) := wr_a _ _ (by unfold areaK at hkl; omega)
      rw [if_neg (by simp [hc]), wr_1 n (by omega), if_pos (by omega), if_pos (by rw [B_size]; omega), Int.toNat_natCast, ex_drop]
      show ((runP isK (B (l.drop (n + 1)))).bind _) = _
      rw [run_eq isK _ hd, Option.bind_some, hw, area_eq k (by omega) l hl _ hkl, Option.bind_some, if_pos hc]
    · rw [if_pos (by simp [hc]), if_neg hc]; rfl
  · rw [if_pos (by rw [B_size]; omega), if_neg (by rw [List.getElem?_eq_none (by omega)]; simp)]
    simp only [fscan_sheeted.j0]
    rfl
def rowsL (l : List UInt8) : Nat := if l[rn isD l]? = some 58 ∧ PR (l.take (areaK l (rn isD l))) = true then areaK l (rn isD l) else 0
theorem rows_eq (k : Nat) (hk : 1003 ≤ k) (l : List UInt8) (hl : l.length ≤ 2000000) : fscan_rows.f k (B l) = some ((rowsL l : Nat) : Int) := by
  obtain ⟨k, rfl⟩ : ∃ q, k = q + 1 := ⟨k - 1, by omega⟩
  obtain ⟨n, hn⟩ : ∃ n, n = rn isD l := ⟨_, rfl⟩
  have hnl : n ≤ l.length := by rw [hn]; exact rn_le isD l
  unfold fscan_rows.f rowsL
  show ((runP isD (B l)).bind _) = _
  rw [run_eq isD l (by omega), Option.bind_some, ← hn]
  by_cases h : n < l.length
  · rw [if_pos (by rw [B_size]; omega), if_pos (by omega)]
    have e : (bt (B l) (n : Int) == 58) = decide (l[n]? = some 58) := btb l n h 58
    rw [e]
    simp only [fscan_rows.j0]
    by_cases hc : l[n]? = some 58
    · have hkl := areaK_le l n h
      have hd : (l.drop (n + 1)).length ≤ 4000000 := by rw [List.length_drop]; omega
      have hw : wrap64 (((n + 1 : Nat) : Int) + ((rn isK (l.drop (n + 1)) : Nat) : Int)) = ((areaK l n : Nat) : Int) := wr_a _ _ (by unfold areaK at hkl; omega)
      rw [if_pos (decide_eq_true hc), wr_1 n (by omega), if_pos (by omega), if_pos (by rw [B_size]; omega), Int.toNat_natCast, ex_drop]
      show ((runP isK (B (l.drop (n + 1)))).bind _) = _
      rw [run_eq isK _ hd, Option.bind_some, hw, if_pos (by omega), if_pos (by rw [B_size]; omega), Int.toNat_natCast, ex_take, isRef_eq k (by omega), Option.bind_some]
      by_cases h1 : PR (l.take (areaK l n)) = true
      · rw [if_pos h1, if_pos ⟨hc, h1⟩]
      · rw [if_neg h1, if_neg (fun h => h1 h.2)]; rfl
    · rw [if_neg (by simp [hc]), if_neg (fun h => hc h.1)]; rfl
  · rw [if_neg (by rw [B_size]; omega), if_neg (by rw [List.getElem?_eq_none (by omega)]; simp)]
    simp only [fscan_rows.j0]
    rfl

/-! ### Numbers -/
def dotL (l : List UInt8) (n : Nat) : Nat := if l[n]? = some 46 ∧ 0 < rn isD (l.drop (n + 1)) then n + 1 + rn isD (l.drop (n + 1)) else n
def sgnL (l : List UInt8) (n : Nat) : Nat := if l[n]? = some 43 ∨ l[n]? = some 45 then n + 1 else n
theorem sgn_pos {l : List UInt8} {n : Nat} (h : l[n]? = some 43 ∨ l[n]? = some 45) : sgnL l n = n + 1 := if_pos h
theorem sgn_neg {l : List UInt8} {n : Nat} (h : ¬ (l[n]? = some 43 ∨ l[n]? = some 45)) : sgnL l n = n := if_neg h
def isE (o : Option UInt8) : Bool := match o with | some c => c == 69 || c == 101 | none => false
def expL (l : List UInt8) (n : Nat) : Nat :=
  if isE l[n]? = true ∧ 0 < rn isD (l.drop (sgnL l (n + 1))) then sgnL l (n + 1) + rn isD (l.drop (sgnL l (n + 1))) else n
def numberL (l : List UInt8) : Nat := expL l (dotL l (rn isD l))
theorem or32 (c : UInt8) : (Go.bits .or .u8 (c.toNat : Int) 32 == 101) = isE (some c) := by
  have : ∀ n : Fin 256, (Go.bits .or .u8 (n.val : Int) 32 == 101) = isE (some (UInt8.ofNat n.val)) := by decide +kernel
  have e := this ⟨c.toNat, UInt8.toNat_lt c⟩
  simpa only [UInt8.ofNat_toNat] using e
theorem number_j3 (k : Nat) (l : List UInt8) (hl : l.length ≤ 2000000) (n m : Nat) (hm : m ≤ l.length) (b : Bool) (hb : b = true → m < l.length) :
    fscan_number.j3 (k + 1) (B l) (n : Int) (m : Int) b = some (((if 0 < rn isD (l.drop (if b = true then m + 1 else m)) then (if b = true then m + 1 else m) + rn isD (l.drop (if b = true then m + 1 else m)) else n : Nat)) : Int) := by
  simp only [fscan_number.j3]
  cases b with
  | true =>
    have hlt := hb rfl
    have hd : (l.drop (m + 1)).length ≤ 4000000 := by rw [List.length_drop]; omega
    have hr := rn_le isD (l.drop (m + 1))
    rw [List.length_drop] at hr
    simp only [if_true]
    rw [wr_1 m (by omega), if_pos (by omega), if_pos (by rw [B_size]; omega), Int.toNat_natCast, ex_drop]
    show ((runP isD (B (l.drop (m + 1)))).bind _) = _
    rw [run_eq isD _ hd, Option.bind_some, wr_a _ _ (by omega)]
    by_cases h0 : 0 < rn isD (l.drop (m + 1))
    · rw [if_pos (by omega), if_pos h0]
    · rw [if_neg (by omega), if_neg h0]
  | false =>
    have hd : (l.drop m).length ≤ 4000000 := by rw [List.length_drop]; omega
    have hr := rn_le isD (l.drop m)
    rw [List.length_drop] at hr
    simp only [Bool.false_eq_true, if_false]
    rw [if_pos (by omega), if_pos (by rw [B_size]; omega), Int.toNat_natCast, ex_drop]
    show ((runP isD (B (l.drop m))).bind _) = _
    rw [run_eq isD _ hd, Option.bind_some, wr_a _ _ (by omega)]
    by_cases h0 : 0 < rn isD (l.drop m)
    · rw [if_pos (by omega), if_pos h0]
    · rw [if_neg (by omega), if_neg h0]
theorem number_j1 (k : Nat) (l : List UInt8) (hl : l.length ≤ 2000000) (n : Nat) (hn : n ≤ l.length) : fscan_number.j1 (k + 3) (B l) (n : Int) = some ((expL l n : Nat) : Int) := by
  simp only [fscan_number.j1]
  by_cases h : n < l.length
  · have hg : l[n]? = some l[n] := List.getElem?_eq_getElem h
    rw [if_pos (by rw [B_size]; omega), if_pos (by omega), bt_B l n h, or32]
    simp only [fscan_number.j2]
    unfold expL
    rw [hg]
    cases he : isE (some l[n]) with
    | false => simp
    | true =>
      simp only [if_true, true_and]
      rw [wr_1 n (by omega)]
      by_cases h2 : n + 1 < l.length
      · rw [if_pos (by rw [B_size]; omega), if_pos (by omega)]
        have e1 : (bt (B l) ((n + 1 : Nat) : Int) = 43) ↔ l[n + 1]? = some 43 := btq l (n + 1) h2 43
        have e2 : (bt (B l) ((n + 1 : Nat) : Int) == 45) = decide (l[n + 1]? = some 45) := btb l (n + 1) h2 45
        rw [e2]
        by_cases h43 : l[n + 1]? = some 43
        · rw [if_pos (e1.2 h43), number_j3 k l hl n (n + 1) (by omega) true (fun _ => h2)]
          rw [sgn_pos (.inl h43)]; rfl
        · rw [if_neg (fun h => h43 (e1.1 h)), number_j3 k l hl n (n + 1) (by omega) _ (fun _ => h2)]
          by_cases h45 : l[n + 1]? = some 45
          · rw [sgn_pos (.inr h45)]
            simp only [h45, decide_true, if_true]
          · rw [sgn_neg (fun h => h.elim h43 h45)]
            simp only [h45, decide_false, Bool.false_eq_true, if_false]
      · rw [if_neg (by rw [B_size]; omega), number_j3 k l hl n (n + 1) (by omega) false (fun h => by cases h)]
        have hn1 : l[n + 1]? = none := List.getElem?_eq_none (by omega)
        rw [sgn_neg (by rw [hn1]; simp)]
        simp
  · rw [if_neg (by rw [B_size]; omega)]
    simp only [fscan_number.j2]
    unfold expL
    rw [List.getElem?_eq_none (by omega : l.length ≤ n)]
    simp [isE]
theorem number_eq (k : Nat) (hk : 10 ≤ k) (l : List UInt8) (hl : l.length ≤ 2000000) : fscan_number.f k (B l) = some ((numberL l : Nat) : Int) := by
  obtain ⟨k, rfl⟩ : ∃ q, k = q + 4 := ⟨k - 4, by omega⟩
  obtain ⟨n, hn⟩ : ∃ n, n = rn isD l := ⟨_, rfl⟩
  have hnl : n ≤ l.length := by rw [hn]; exact rn_le isD l
  unfold fscan_number.f numberL
  show ((runP isD (B l)).bind _) = _
  rw [run_eq isD l (by omega), Option.bind_some, ← hn]
  by_cases h : n < l.length
  · rw [if_pos (by rw [B_size]; omega), if_pos (by omega)]
    have e : (bt (B l) (n : Int) == 46) = decide (l[n]? = some 46) := btb l n h 46
    rw [e]
    simp only [fscan_number.j0]
    unfold dotL
    by_cases hc : l[n]? = some 46
    · have hd : (l.drop (n + 1)).length ≤ 4000000 := by rw [List.length_drop]; omega
      have hr := rn_le isD (l.drop (n + 1))
      rw [List.length_drop] at hr
      rw [if_pos (decide_eq_true hc), wr_1 n (by omega), if_pos (by omega), if_pos (by rw [B_size]; omega), Int.toNat_natCast, ex_drop]
      show ((runP isD (B (l.drop (n + 1)))).bind _) = _
      rw [run_eq isD _ hd, Option.bind_some]
      by_cases h0 : 0 < rn isD (l.drop (n + 1))
      · have hw : wrap64 ((n : Int) + wrap64 (1 + ((rn isD (l.drop (n + 1)) : Nat) : Int))) = ((n + 1 + rn isD (l.drop (n + 1)) : Nat) : Int) := by unfold wrap64; omega
        rw [if_pos (by omega), hw, number_j1 k l hl _ (by omega), if_pos ⟨hc, h0⟩]
      · rw [if_neg (by omega), number_j1 k l hl _ hnl, if_neg (fun h => h0 h.2)]
    · rw [if_neg (by simp [hc]), number_j1 k l hl _ hnl, if_neg (fun h => hc h.1)]
  · rw [if_neg (by rw [B_size]; omega)]
    simp only [fscan_number.j0, Bool.false_eq_true, if_false]
    rw [number_j1 k l hl _ hnl]
    unfold dotL
    rw [if_neg (by rw [List.getElem?_eq_none (by omega)]; simp)]
end Go.Proofs.YtefhcgnamfnkbaaDoor.Pure
