/- The tokens of a formula are its text, and each of them is a token alone: as plain functions. -/
import Derived.Test.YtefhcgnamfnkbaaDoorPureScan3
import Derived.Test.YtefhcgnamfnkbaaDoorScx7
namespace Go.Proofs.YtefhcgnamfnkbaaDoor.Pure
open Go.RowKit Go.Proofs.YtefhcgnamfnkbaaDoor.Pr Go.Proofs.YtefhcgnamfnkbaaDoorW.PrintWords Go.Proofs.YtefhcgnamfnkbaaDoorW.PrintLast
open Go.Proofs.YtefhcgnamfnkbaaDoor

/-- The first token: its kind, its length; 0: there is none. -/
def nextC (c : UInt8) (l : List UInt8) : Int × Nat :=
  if isS c = true then (0, rn isS l)
  else if c = 34 then (2, quotedL 34 l)
  else if c = 35 then (if ([35, 82, 69, 70, 33] : List UInt8).isPrefixOf l = true then (4, 5) else ((faultIn l faults).1, (faultIn l faults).2.toNat))
  else if c = 39 then (4, if 0 < quotedL 39 l then sheetedL l (quotedL 39 l) else 0)
  else if isD c = true then (if 0 < rowsL l then (4, rowsL l) else (1, numberL l))
  else if isL c = true ∨ c = 95 ∨ c = 36 then wordL l
  else if ([60, 61] : List UInt8).isPrefixOf l = true ∨ ([62, 61] : List UInt8).isPrefixOf l = true ∨ ([60, 62] : List UInt8).isPrefixOf l = true then (8, 2)
  else if (0 : Int) ≤ Lib.indexByte opsL c then (8, 1)
  else (8, 0)
def nextL : List UInt8 → Int × Nat
  | [] => (8, 0)
  | c :: r => nextC c (c :: r)
theorem fault_cases (l : List UInt8) : ∀ fs : List (List UInt8), (∃ f ∈ fs, f.isPrefixOf l = true ∧ faultIn l fs = (3, (f.length : Int))) ∨ faultIn l fs = (8, 1)
  | [] => .inr rfl
  | f :: r => by
    by_cases h : f.isPrefixOf l = true
    · exact .inl ⟨f, List.mem_cons_self, h, by unfold faultIn; rw [if_pos h]⟩
    · rcases fault_cases l r with ⟨g, hg, h1, h2⟩ | h2
      · exact .inl ⟨g, List.mem_cons_of_mem _ hg, h1, by unfold faultIn; rw [if_neg h, h2]⟩
      · exact .inr (by unfold faultIn; rw [if_neg h, h2])
theorem fault_nn (l : List UInt8) : 0 ≤ (faultIn l faults).2 := by
  rcases fault_cases l faults with ⟨f, _, _, e⟩ | e <;> rw [e] <;> simp
theorem next_eq (k : Nat) (l : List UInt8) (hl : l.length ≤ 2000000) (h0 : l ≠ []) (hk : l.length + 1200 ≤ k) : fscan_next.f k (B l) = some ((nextL l).1, ((nextL l).2 : Int)) := by
  match l, h0 with
  | c :: r, _ =>
  have hsz : 0 < (B (c :: r)).size := by rw [B_size]; simp
  have h1 : 1 ≤ (c :: r).length := by simp
  have hc : (B (c :: r))[0]'hsz = c := rfl
  have hd : (B (c :: r)).data.toList = c :: r := rfl
  unfold fscan_next.f
  rw [dif_pos hsz, hc, hd]
  show _ = some ((nextC c (c :: r)).1, (((nextC c (c :: r)).2 : Nat) : Int))
  unfold nextC
  by_cases b1 : isS c = true
  · rw [if_pos b1, if_pos b1]
    show ((runP isS (B (c :: r))).bind _) = _
    rw [run_eq isS _ (by omega), Option.bind_some]
  rw [if_neg b1, if_neg b1]
  by_cases b2 : c = 34
  · rw [if_pos b2, if_pos b2, show (34 : Int) = ((34 : UInt8).toNat : Int) from rfl, quoted_eq 34 k _ hl h1 (by omega), Option.bind_some]
  rw [if_neg b2, if_neg b2]
  by_cases b3 : c = 35
  · rw [if_pos b3, if_pos b3]
    by_cases b : ([35, 82, 69, 70, 33] : List UInt8).isPrefixOf (c :: r) = true
    · rw [if_pos b, if_pos b]; rfl
    · rw [if_neg b, if_neg b]
      have := fault_nn (c :: r)
      simp only [Option.some.injEq]
      exact Prod.ext rfl (show _ = (((faultIn (c :: r) faults).2.toNat : Nat) : Int) by omega)
  rw [if_neg b3, if_neg b3]
  by_cases b4 : c = 39
  · rw [if_pos b4, if_pos b4, show (39 : Int) = ((39 : UInt8).toNat : Int) from rfl, quoted_eq 39 k _ hl h1 (by omega), Option.bind_some]
    by_cases b : 0 < quotedL 39 (c :: r)
    · have hq := (quoted_tok 39 _ b).1
      rw [if_pos (by omega), if_pos b, sheeted_eq k (by omega) _ hl _ hq, Option.bind_some]
    · rw [if_neg (by omega), if_neg b]; rfl
  rw [if_neg b4, if_neg b4]
  by_cases b5 : isD c = true
  · rw [if_pos b5, if_pos b5, rows_eq k (by omega) _ hl, Option.bind_some]
    by_cases b : 0 < rowsL (c :: r)
    · rw [if_pos (by omega), if_pos b]
    · rw [if_neg (by omega), if_neg b, number_eq k (by omega) _ hl, Option.bind_some]
  rw [if_neg b5, if_neg b5]
  by_cases b6 : isL c = true ∨ c = 95 ∨ c = 36
  · rw [if_pos b6, if_pos b6, word_eq k _ hl (by omega)]
  rw [if_neg b6, if_neg b6]
  split
  · rfl
  · split
    · rfl
    · rfl

/-! ### A token alone -/
theorem take_cons (c : UInt8) (r : List UInt8) (m : Nat) (h : 0 < m) : ∃ q, (c :: r).take m = c :: q := by
  obtain ⟨m, rfl⟩ : ∃ q, m = q + 1 := ⟨m - 1, by omega⟩
  exact ⟨r.take m, rfl⟩
theorem prefix_take {f l : List UInt8} (h : f.isPrefixOf l = true) : l.take f.length = f ∧ f.length ≤ l.length := by
  rw [List.isPrefixOf_iff_prefix] at h
  exact ⟨(List.prefix_iff_eq_take.1 h).symm, h.length_le⟩
theorem rn_pos (p : UInt8 → Bool) (c : UInt8) (r : List UInt8) (h : p c = true) : 0 < rn p (c :: r) := by
  unfold rn; rw [List.takeWhile_cons, h]; simp
theorem faults_alone : ∀ f ∈ faults, nextL f = (3, f.length) := by decide
theorem isW_of {c : UInt8} (h : isL c = true ∨ c = 95 ∨ c = 36) : isW c = true := by
  unfold isW isK
  rcases h with h | rfl | rfl
  · rw [h]; rfl
  · decide
  · decide
theorem tok (l : List UInt8) (h : 0 < (nextL l).2) : (nextL l).2 ≤ l.length ∧ (nextL (l.take (nextL l).2)).2 = (nextL l).2 ∧ ((nextL l).1 ≠ 6 → (nextL (l.take (nextL l).2)).1 = (nextL l).1) := by
  match l, h with
  | [], h => exact absurd h (by simp [nextL])
  | c :: r, h =>
  obtain ⟨m, hm⟩ : ∃ m, m = (nextL (c :: r)).2 := ⟨_, rfl⟩
  rw [← hm] at h ⊢
  obtain ⟨q, hq⟩ := take_cons c r m h
  rw [hq]
  change m = (nextC c (c :: r)).2 at hm
  show m ≤ _ ∧ (nextC c (c :: q)).2 = m ∧ ((nextC c (c :: r)).1 ≠ 6 → (nextC c (c :: q)).1 = (nextC c (c :: r)).1)
  unfold nextC at hm ⊢
  by_cases b1 : isS c = true
  · simp only [b1, if_true] at hm ⊢
    subst hm
    refine ⟨rn_le isS _, ?_, fun _ => trivial⟩
    rw [← hq, rn_take isS _ _ (Nat.le_refl _)]
  by_cases b2 : c = 34
  · simp only [if_neg b1, if_pos b2] at hm ⊢
    subst hm
    obtain ⟨q1, _, q3⟩ := quoted_tok 34 (c :: r) h
    refine ⟨q1, ?_, fun _ => trivial⟩
    rw [← hq, q3 _ (Nat.le_refl _)]
  by_cases b3 : c = 35
  · simp only [if_neg b1, if_neg b2, if_pos b3] at hm ⊢
    by_cases b : ([35, 82, 69, 70, 33] : List UInt8).isPrefixOf (c :: r) = true
    · simp only [if_pos b] at hm ⊢
      subst hm
      obtain ⟨p1, p2⟩ := prefix_take b
      change (c :: r).take 5 = [35, 82, 69, 70, 33] at p1
      change 5 ≤ (c :: r).length at p2
      have hqe : c :: q = [35, 82, 69, 70, 33] := by rw [← hq]; exact p1
      rw [hqe]
      exact ⟨p2, by decide, fun _ => by decide⟩
    · simp only [if_neg b] at hm ⊢
      rcases fault_cases (c :: r) faults with ⟨f, hf, hp, e⟩ | e
      · rw [e] at hm ⊢
        simp only [Int.toNat_natCast] at hm
        subst hm
        obtain ⟨p1, p2⟩ := prefix_take hp
        have ha := faults_alone f hf
        have hqe : c :: q = f := by rw [← hq]; exact p1
        rw [← hqe] at ha
        change nextC c (c :: q) = _ at ha
        unfold nextC at ha
        simp only [if_neg b1, if_neg b2, if_pos b3] at ha
        rw [hqe] at ha ⊢
        rw [ha]
        exact ⟨p2, rfl, fun _ => rfl⟩
      · rw [e] at hm ⊢
        change m = 1 at hm
        subst hm
        have hqe : c :: q = [35] := by rw [← hq, b3]; rfl
        rw [hqe]
        exact ⟨by simp, by decide, fun _ => by decide⟩
  by_cases b4 : c = 39
  · simp only [if_neg b1, if_neg b2, if_neg b3, if_pos b4] at hm ⊢
    by_cases b : 0 < quotedL 39 (c :: r)
    · simp only [if_pos b] at hm
      obtain ⟨q1, _, q3⟩ := quoted_tok 39 (c :: r) b
      obtain ⟨s1, s2, _, s4⟩ := sheeted_tok (c :: r) (quotedL 39 (c :: r)) (by omega)
      rw [← hm] at s1 s2 s4
      refine ⟨s2, ?_, fun _ => trivial⟩
      rw [← hq, q3 m (by omega), if_pos b, s4]
    · simp only [if_neg b] at hm; omega
  by_cases b5 : isD c = true
  · simp only [if_neg b1, if_neg b2, if_neg b3, if_neg b4, if_pos b5] at hm ⊢
    by_cases b : 0 < rowsL (c :: r)
    · simp only [if_pos b] at hm ⊢
      obtain ⟨s1, s2, s3⟩ := rows_tok (c :: r) b
      rw [← hm] at s1 s2 s3
      rw [← hq, s3, if_pos h]
      exact ⟨s2, rfl, fun _ => rfl⟩
    · simp only [if_neg b] at hm ⊢
      obtain ⟨s1, s2, s3, s4⟩ := number_tok (c :: r)
      rw [← hm] at s1 s2 s3 s4
      rw [← hq, s4, if_neg (by omega), s3]
      exact ⟨s2, rfl, fun _ => rfl⟩
  by_cases b6 : isL c = true ∨ c = 95 ∨ c = 36
  · simp only [if_neg b1, if_neg b2, if_neg b3, if_neg b4, if_neg b5, if_pos b6] at hm ⊢
    obtain ⟨s1, s2, s3, s4⟩ := word_tok (c :: r) (by omega)
    rw [← hm] at s1 s2 s3 s4
    rw [← hq]
    exact ⟨s2, s3, s4⟩
  · simp only [if_neg b1, if_neg b2, if_neg b3, if_neg b4, if_neg b5, if_neg b6] at hm ⊢
    by_cases b7 : ([60, 61] : List UInt8).isPrefixOf (c :: r) = true ∨ ([62, 61] : List UInt8).isPrefixOf (c :: r) = true ∨ ([60, 62] : List UInt8).isPrefixOf (c :: r) = true
    · simp only [if_pos b7] at hm ⊢
      subst hm
      have : (c :: q = [60, 61] ∨ c :: q = [62, 61] ∨ c :: q = [60, 62]) ∧ 2 ≤ (c :: r).length := by
        rw [← hq]
        rcases b7 with b | b | b
        · exact ⟨.inl (prefix_take b).1, (prefix_take b).2⟩
        · exact ⟨.inr (.inl (prefix_take b).1), (prefix_take b).2⟩
        · exact ⟨.inr (.inr (prefix_take b).1), (prefix_take b).2⟩
      refine ⟨this.2, ?_⟩
      rcases this.1 with e | e | e <;> rw [e] <;> exact ⟨by simp [List.isPrefixOf], fun _ => by simp [List.isPrefixOf]⟩
    · simp only [if_neg b7] at hm ⊢
      by_cases b8 : (0 : Int) ≤ Lib.indexByte opsL c
      · simp only [if_pos b8] at hm ⊢
        subst hm
        have hqe : c :: q = [c] := by rw [← hq]; rfl
        rw [hqe]
        have n7 : ¬ (([60, 61] : List UInt8).isPrefixOf [c] = true ∨ ([62, 61] : List UInt8).isPrefixOf [c] = true ∨ ([60, 62] : List UInt8).isPrefixOf [c] = true) := by
          simp [List.isPrefixOf]
        rw [if_neg n7]
        exact ⟨by simp, rfl, fun _ => rfl⟩
      · simp only [if_neg b8] at hm; omega

/-! ### Scan -/
/-- A token as the law wants it. -/
def Alone (T : S37) : Prop := T.f1.data.toList ≠ [] ∧ (nextL T.f1.data.toList).2 = T.f1.data.toList.length ∧ (T.f0 ≠ 6 → (nextL T.f1.data.toList).1 = T.f0)
def textOf (ts : List S37) : List UInt8 := ts.flatMap fun T => T.f1.data.toList
theorem scan_l0 (l : List UInt8) (hl : l.length ≤ 2000000) (N : Nat) : ∀ (d k i : Nat) (xs : List S37), d ≤ N → i + d = l.length → d + l.length + 1300 ≤ k → xs.length ≤ i →
    (∃ a : Nat, fscan_Scan.l0 k (B l) xs (i : Int) = some ([], (a : Int), 10) ∧ a ≤ l.length) ∨
    (∃ ts : List S37, fscan_Scan.l0 k (B l) xs (i : Int) = some (xs ++ ts, 0, 0) ∧ textOf ts = l.drop i ∧ (∀ T ∈ ts, Alone T) ∧ (0 < d → ts ≠ [])) := by
  induction N with
  | zero =>
    intro d k i xs hd hi hk _
    obtain ⟨k, rfl⟩ : ∃ q, k = q + 1 := ⟨k - 1, by omega⟩
    refine .inr ⟨[], ?_, ?_, fun T h => by (cases h), fun h => by omega⟩
    · simp only [fscan_Scan.l0]
      rw [if_neg (by rw [B_size]; omega), List.append_nil]
    · rw [List.drop_of_length_le (by omega)]; rfl
  | succ N ih =>
    intro d k i xs hd hi hk hx
    rcases Nat.eq_zero_or_pos d with h0 | h0
    · subst h0
      obtain ⟨k, rfl⟩ : ∃ q, k = q + 1 := ⟨k - 1, by omega⟩
      refine .inr ⟨[], ?_, ?_, fun T h => by (cases h), fun h => by omega⟩
      · simp only [fscan_Scan.l0]
        rw [if_neg (by rw [B_size]; omega), List.append_nil]
      · rw [List.drop_of_length_le (by omega)]; rfl
    · obtain ⟨k, rfl⟩ : ∃ q, k = q + 1 := ⟨k - 1, by omega⟩
      have hdl : (l.drop i).length = d := by rw [List.length_drop]; omega
      have hne : l.drop i ≠ [] := fun e => by rw [e] at hdl; simp at hdl; omega
      have hnx := next_eq k (l.drop i) (by omega) hne (by omega)
      simp only [fscan_Scan.l0]
      rw [if_pos (by rw [B_size]; omega), if_pos (by omega), if_pos (by rw [B_size]; omega), Int.toNat_natCast, ex_drop, hnx, Option.bind_some]
      simp only
      obtain ⟨n, hn⟩ : ∃ n, n = (nextL (l.drop i)).2 := ⟨_, rfl⟩
      rw [← hn]
      by_cases hz : n = 0
      · rw [if_pos (by omega)]
        exact .inl ⟨i, rfl, by omega⟩
      · obtain ⟨t1, t2, t3⟩ := tok (l.drop i) (by omega)
        rw [← hn] at t1 t2 t3
        rw [if_neg (by omega), wr_a i n (by omega), if_pos (by omega), if_pos (by rw [B_size]; omega), if_pos (by omega), Int.toNat_natCast, ex_mid, show i + n - i = n by omega]
        have hlen : ((l.drop i).take n).length = n := by rw [List.length_take]; omega
        have hT : Alone ⟨(nextL (l.drop i)).1, B ((l.drop i).take n)⟩ := by
          refine ⟨fun e => ?_, ?_, t3⟩
          · have e2 : ((l.drop i).take n) = [] := e
            rw [e2] at hlen; simp at hlen; omega
          · show (nextL ((l.drop i).take n)).2 = ((l.drop i).take n).length
            rw [t2, hlen]
        rcases ih (d - n) k (i + n) (xs ++ [⟨(nextL (l.drop i)).1, B ((l.drop i).take n)⟩]) (by omega) (by omega) (by omega) (by rw [List.length_append, List.length_singleton]; omega) with ⟨a, e, ha⟩ | ⟨ts, e, e1, e2, _⟩
        · exact .inl ⟨a, e, ha⟩
        · refine .inr ⟨⟨(nextL (l.drop i)).1, B ((l.drop i).take n)⟩ :: ts, ?_, ?_, ?_, fun _ => by simp⟩
          · rw [e, List.append_assoc]; rfl
          · show (l.drop i).take n ++ textOf ts = l.drop i
            rw [e1, ← List.drop_drop, List.take_append_drop]
          · intro T hT2
            rcases List.mem_cons.1 hT2 with rfl | hT2
            · exact hT
            · exact e2 T hT2
theorem hasp_61 (l : List UInt8) : strings_HasPrefix.f (B l) ⟨#[61]⟩ = some (decide (l.head? = some 61)) := prefix1 l 61
theorem scan_cases (k : Nat) (s : ByteArray) (hs : s.size ≤ 1999999) (hk : 2 * s.size + 1400 ≤ k) :
    (∃ a : Nat, fscan_Scan.f k s = some ([], (a : Int), 10) ∧ a ≤ s.size) ∨
    (∃ ts : List S37, fscan_Scan.f k s = some (ts, 0, 0) ∧ 61 :: textOf ts = s.data.toList ∧ ∀ T ∈ ts, Alone T) := by
  have hlen : s.data.toList.length = s.size := by rw [Array.length_toList]; rfl
  have hB : s = B s.data.toList := rfl
  unfold fscan_Scan.f
  rw [hB, hasp_61, Option.bind_some]
  by_cases h : s.data.toList.head? = some 61
  · rw [if_pos (decide_eq_true h)]
    obtain ⟨r, hr⟩ : ∃ r, s.data.toList = 61 :: r := by
      cases hc : s.data.toList with
      | nil => rw [hc] at h; cases h
      | cons c r => rw [hc] at h; simp only [List.head?_cons, Option.some.injEq] at h; exact ⟨r, by rw [h]⟩
    have hl1 : 1 ≤ s.data.toList.length := by rw [hr]; simp
    rcases scan_l0 s.data.toList (by omega) s.data.toList.length (s.data.toList.length - 1) k 1 [] (by omega) (by omega) (by omega) (by simp) with ⟨a, e, ha⟩ | ⟨ts, e, e1, e2, _⟩
    · exact .inl ⟨a, e, by rw [B_size]; omega⟩
    · refine .inr ⟨ts, e, ?_, e2⟩
      rw [e1, hr]; rfl
  · rw [if_neg (by simp [h])]
    exact .inl ⟨0, rfl, Nat.zero_le _⟩
/-- A token scanned alone. -/
theorem scan_one (k : Nat) (T : S37) (hT : Alone T) (hs : T.f1.size ≤ 1900000) (hk : 2 * T.f1.size + 1500 ≤ k) :
    fscan_Scan.f k ((⟨#[61]⟩ : ByteArray) ++ T.f1) = some ([⟨(nextL T.f1.data.toList).1, T.f1⟩], 0, 0) := by
  obtain ⟨t, ht⟩ : ∃ t, t = T.f1.data.toList := ⟨_, rfl⟩
  have hf : T.f1 = B t := by rw [ht]
  have hlen : t.length = T.f1.size := by rw [ht, Array.length_toList]; rfl
  have hA : Alone T := hT
  unfold Alone at hA
  rw [← ht] at hA ⊢
  obtain ⟨h1, h2, _⟩ := hA
  have hpos : 0 < t.length := List.length_pos_iff.2 h1
  have e61 : (⟨#[61]⟩ : ByteArray) ++ T.f1 = B (61 :: t) := by rw [hf]; exact B_app [61] t
  obtain ⟨k, rfl⟩ : ∃ q, k = q + 2 := ⟨k - 2, by omega⟩
  unfold fscan_Scan.f
  rw [e61, hasp_61, Option.bind_some, if_pos (by rfl)]
  have hcl : (61 :: t).length = t.length + 1 := rfl
  have hd : (61 :: t).drop 1 = t := rfl
  have step : ∀ K : Nat, t.length + 1200 ≤ K → fscan_Scan.l0 (K + 1) (B (61 :: t)) [] ((1 : Nat) : Int) = fscan_Scan.l0 K (B (61 :: t)) [⟨(nextL t).1, B t⟩] ((1 + t.length : Nat) : Int) := by
    intro K hK
    have hnx := next_eq K t (by omega) h1 hK
    simp only [fscan_Scan.l0]
    rw [if_pos (by rw [B_size]; omega), if_pos (by omega), if_pos (by rw [B_size]; omega), Int.toNat_natCast, ex_drop, hd, hnx, Option.bind_some]
    simp only
    rw [if_neg (by omega), h2, wr_a 1 t.length (by omega), if_pos (by omega), if_pos (by rw [B_size]; omega), if_pos (by simp), Int.toNat_natCast, ex_mid, hd, show 1 + t.length - 1 = t.length by omega, List.take_length, List.nil_append]
  rw [show (1 : Int) = ((1 : Nat) : Int) from rfl, step (k + 1) (by omega)]
  simp only [fscan_Scan.l0]
  rw [if_neg (by rw [B_size]; omega), hf]

/-! ### The law -/
theorem S37_eta (T : S37) : T = ⟨T.f0, T.f1⟩ := rfl
theorem rd_get (xs : List S37) (i : Nat) (h : i < xs.length) : rd_T37 xs (i : Int) = xs[i] := by
  unfold rd_T37
  rw [Int.toNat_natCast, List.getD_eq_getElem?_getD, List.getElem?_eq_getElem h]; rfl
theorem text_take (ts : List S37) (i : Nat) (h : i < ts.length) : textOf (ts.take (i + 1)) = textOf (ts.take i) ++ ts[i].f1.data.toList := by
  rw [List.take_add_one, List.getElem?_eq_getElem h]
  unfold textOf
  rw [List.flatMap_append]
  simp
theorem text_len (ts : List S37) (hT : ∀ T ∈ ts, Alone T) : ts.length ≤ (textOf ts).length := by
  induction ts with
  | nil => exact Nat.le_refl _
  | cons T r ih =>
    have h1 := List.length_pos_iff.2 (hT T List.mem_cons_self).1
    have h2 := ih fun U hU => hT U (List.mem_cons_of_mem _ hU)
    show r.length + 1 ≤ (T.f1.data.toList ++ textOf r).length
    rw [List.length_append]; omega
theorem text_part (ts : List S37) (i : Nat) (h : i < ts.length) : (textOf (ts.take i)).length + ts[i].f1.data.toList.length ≤ (textOf ts).length := by
  have e : ts = ts.take i ++ ts[i] :: ts.drop (i + 1) := by rw [← List.drop_eq_getElem_cons h, List.take_append_drop]
  have e2 : textOf ts = textOf (ts.take i) ++ (ts[i].f1.data.toList ++ textOf (ts.drop (i + 1))) := by
    conv => lhs; rw [e]
    unfold textOf
    rw [List.flatMap_append]; rfl
  rw [e2, List.length_append, List.length_append]; omega
theorem covers_l0 (s : ByteArray) (ts : List S37) (hs : s.size ≤ 1048600) (ht : 61 :: textOf ts = s.data.toList) (hT : ∀ T ∈ ts, Alone T) (d : Nat) :
    ∀ (k i : Nat), i + d = ts.length → d + 2 * s.size + 1600 ≤ k → chancerykeep2_ScanCovers.l0 k s (B (61 :: textOf (ts.take i))) ts (ts.length : Int) (i : Int) = some true := by
  have hlen : s.data.toList.length = s.size := by rw [Array.length_toList]; rfl
  have htl : (textOf ts).length + 1 = s.size := by rw [← hlen, ← ht]; rfl
  have hcount := text_len ts hT
  induction d with
  | zero =>
    intro k i hi hk
    obtain ⟨k, rfl⟩ : ∃ q, k = q + 1 := ⟨k - 1, by omega⟩
    simp only [chancerykeep2_ScanCovers.l0]
    rw [if_neg (by omega), List.take_of_length_le (by omega), ht]
    show some ((B s.data.toList).toList == s.toList) = _
    rw [B_self]
    simp
  | succ d ih =>
    intro k i hi hk
    obtain ⟨k, rfl⟩ : ∃ q, k = q + 1 := ⟨k - 1, by omega⟩
    have hi2 : i < ts.length := by omega
    obtain ⟨T, hTi⟩ : ∃ T, T = ts[i] := ⟨_, rfl⟩
    have hA : Alone T := hT T (by rw [hTi]; exact List.getElem_mem hi2)
    have hp := text_part ts i hi2
    rw [← hTi] at hp
    have hTs : T.f1.data.toList.length = T.f1.size := by rw [Array.length_toList]; rfl
    have hone := scan_one k T hA (by omega) (by omega)
    have hne : ¬ T.f1.toList = ([] : List UInt8) := by rw [ByteArray.toList_eq]; exact hA.1
    have happ : B (61 :: textOf (ts.take i)) ++ T.f1 = B (61 :: textOf (ts.take (i + 1))) := by
      have : T.f1 = B T.f1.data.toList := rfl
      rw [this, B_app, text_take ts i hi2, ← hTi]; rfl
    have hgo := ih k (i + 1) (by omega) (by omega)
    have hsz : (B (61 :: textOf (ts.take i))).size + T.f1.size ≤ 9223372036854775807 := by
      rw [B_size, List.length_cons]; omega
    simp only [chancerykeep2_ScanCovers.l0]
    rw [if_pos (by omega), if_pos (by omega), if_pos (by omega), rd_get ts i hi2, ← hTi, if_pos (by omega), hone, Option.bind_some]
    simp only [if_true]
    rw [if_neg (by simp), if_neg hne, wr_1 i (by omega), happ, if_pos hsz]
    by_cases h6 : T.f0 = 6
    · rw [if_pos h6]; exact hgo
    · rw [if_neg h6]
      by_cases h8 : T.f0 = 8
      · rw [if_pos h8]; exact hgo
      · rw [if_neg h8, if_pos (by simp), if_pos (by simp)]
        have h0 : (rd_T37 [⟨(nextL T.f1.data.toList).1, T.f1⟩] 0).f0 = T.f0 := hA.2.2 h6
        rw [if_pos h0]; exact hgo
theorem scans_100 : chancerykeep2_scans.f 100 = some true := by decide +kernel
theorem scans_up : ∀ d, chancerykeep2_scans.f (100 + d) = some true
  | 0 => scans_100
  | d + 1 => chancerykeep2_scans.mono (100 + d) true (scans_up d)
theorem scans_true (k : Nat) (hk : 2000 ≤ k) : chancerykeep2_scans.f k = some true := by
  have := scans_up (k - 100)
  rw [show 100 + (k - 100) = k by omega] at this
  exact this
theorem covers (s : ByteArray) (hs : s.size ≤ 1048600) : ∃ k, chancerykeep2_ScanCovers.f k s = some true := by
  refine ⟨4 * s.size + 4000, ?_⟩
  have hlen : s.data.toList.length = s.size := by rw [Array.length_toList]; rfl
  unfold chancerykeep2_ScanCovers.f
  rw [scans_true _ (by omega), Option.bind_some, if_pos rfl]
  rcases scan_cases (4 * s.size + 4000) s (by omega) (by omega) with ⟨a, e, ha⟩ | ⟨ts, e, e1, e2⟩
  · rw [e, Option.bind_some]
    simp only
    rw [if_neg (by decide), if_pos (by simp), if_pos (by omega)]
    congr 1
    exact decide_eq_true (by omega)
  · rw [e, Option.bind_some]
    simp only [if_true]
    have hcount := text_len ts e2
    have htl : (textOf ts).length + 1 = s.size := by rw [← hlen, ← e1]; rfl
    have := covers_l0 s ts hs e1 e2 ts.length (4 * s.size + 4000) 0 (by omega) (by omega)
    exact this
end Go.Proofs.YtefhcgnamfnkbaaDoor.Pure
