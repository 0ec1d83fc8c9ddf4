/- Fractions as the program has them: digits, read, write. -/
import Derived.Test.YtefhcgnamfnkbaaGreatDoorZNat7
import Derived.Test.YtefhcgnamfnkbaaGreatDoorZRat1
import Derived.Test.YtefhcgnamfnkbaaGreatDoorPrx9
namespace Go.Proofs.YtefhcgnamfnkbaaGreatDoor.Pure
open Go.RowKit Go.Proofs.YtefhcgnamfnkbaaGreatDoor.Pr Go.Proofs.YtefhcgnamfnkbaaGreatDoorW.PrintWords Go.Proofs.YtefhcgnamfnkbaaGreatDoorW.PrintLast

/-! ### digits -/
def ten0 : List UInt8 := [48, 49, 50, 51, 52, 53, 54, 55, 56, 57]
theorem ten_contains (c : UInt8) : ten0.contains c = isD c := by
  have : ∀ n : Fin 256, ten0.contains (UInt8.ofNat n.val) = isD (UInt8.ofNat n.val) := by decide +kernel
  have e := this ⟨c.toNat, UInt8.toNat_lt c⟩
  simpa only [UInt8.ofNat_toNat] using e
theorem dropWhile_nil (p : UInt8 → Bool) : ∀ l : List UInt8, l.dropWhile p = [] ↔ ∀ c ∈ l, p c = true
  | [] => by simp
  | a :: l => by
    rw [List.dropWhile_cons]
    cases h : p a with
    | true => simp [h, dropWhile_nil p l]
    | false => simp [h]
theorem trim_empty (l : List UInt8) : Lib.trimS l ten0 = [] ↔ Dec l := by
  unfold Lib.trimS Lib.trimLeftS Lib.trimRightS
  have hf : (fun b => ten0.contains b) = isD := funext ten_contains
  rw [hf]
  constructor
  · intro h
    have h1 := (dropWhile_nil isD _).1 h
    have h2 : l.reverse.dropWhile isD = [] := by
      cases hc : l.reverse.dropWhile isD with
      | nil => rfl
      | cons a r =>
        exfalso
        have ha : isD a = false := by
          have := List.head?_dropWhile_not isD l.reverse
          rw [hc] at this
          simpa using this
        have := h1 a (by rw [hc]; simp)
        rw [ha] at this; cases this
    intro c hc
    exact (dropWhile_nil isD _).1 h2 c (by simpa using hc)
  · intro h
    have h2 : l.reverse.dropWhile isD = [] := (dropWhile_nil isD _).2 fun c hc => h c (by simpa using hc)
    rw [h2]; rfl
theorem bt0 (c : UInt8) (r : List UInt8) : bt (B (c :: r)) 0 = (c.toNat : Int) := by
  unfold bt
  rw [dif_pos (show (0 : Int).toNat < (B (c :: r)).size from by rw [B_size]; simp)]
  rfl
theorem digits_f (l : List UInt8) (hl : l.length ≤ 9223372036854775807) : ∃ b, exact_digits.f (B l) = some b ∧ (b = true ↔ Canon l) := by
  have htrim : strings_Trim.f (B l) ⟨#[48, 49, 50, 51, 52, 53, 54, 55, 56, 57]⟩ = some (B (Lib.trimS l ten0)) := by
    unfold strings_Trim.f
    rw [if_pos ⟨by rw [B_size]; omega, by decide, by decide⟩]
    rfl
  have hd : (((B (Lib.trimS l ten0)).toList == ([] : List UInt8)) = true) ↔ Dec l := by rw [beq_iff_eq, B_list, trim_empty]
  unfold exact_digits.f
  rw [B_list]
  cases l with
  | nil => exact ⟨false, by rw [if_pos rfl], ⟨fun h => (by cases h), fun h => absurd rfl h.1⟩⟩
  | cons c r =>
    rw [if_neg (by simp), if_pos (by rw [B_size]; simp), bt0]
    by_cases hc : c = 48
    · rw [if_pos (by rw [hc]; rfl)]
      by_cases hl1 : (c :: r).length = 1
      · rw [if_neg (by rw [B_size]; omega), htrim, Option.bind_some]
        exact ⟨_, rfl, hd.trans ⟨fun h => ⟨by simp, h, fun _ => hl1⟩, fun h => h.2.1⟩⟩
      · rw [if_pos (by rw [B_size]; simp only [List.length_cons] at hl1 ⊢; omega)]
        exact ⟨false, rfl, ⟨fun h => (by cases h), fun h => absurd (h.2.2 (by rw [hc]; rfl)) hl1⟩⟩
    · rw [if_neg (by intro e; exact hc (UInt8.toNat_inj.1 (show c.toNat = (48 : UInt8).toNat by show c.toNat = 48; omega))), htrim, Option.bind_some]
      exact ⟨_, rfl, hd.trans ⟨fun h => ⟨by simp, h, fun e => absurd (Option.some.inj e) hc⟩, fun h => h.2.1⟩⟩

/-! ### read -/
def sgL (z : Int) : List UInt8 := if z < 0 then [45] else []
/-- The texts of a fraction. -/
def numT (x : Q) : List UInt8 := sgL x.1 ++ Lib.decDigits x.1.natAbs
def denT (x : Q) : List UInt8 := Lib.decDigits x.2
theorem hasp45 (l : List UInt8) : stringslite_HasPrefix.f (B l) ⟨#[45]⟩ = some (decide (l.head? = some 45)) := by
  unfold stringslite_HasPrefix.f
  have h1 : (ByteArray.mk #[45]).size = 1 := rfl
  rw [h1]
  cases l with
  | nil => rw [if_neg (by rw [B_size]; simp)]; rfl
  | cons c r =>
    rw [if_pos (by rw [B_size]; simp only [List.length_cons]; omega), if_pos (by omega), if_pos (by rw [B_size]; simp only [List.length_cons]; omega)]
    have e : (B (c :: r)).extract 0 ((1 : Nat) : Int).toNat = B [c] := ex_take (c :: r) 1
    rw [e, B_list]
    have e2 : (ByteArray.mk #[45]).toList = [45] := B_list [45]
    rw [e2]
    congr 1
    rw [Bool.eq_iff_iff, beq_iff_eq, decide_eq_true_eq]
    simp
theorem cutp45 (l : List UInt8) : strings_CutPrefix.f (B l) ⟨#[45]⟩ = some (if l.head? = some 45 then (B (l.drop 1), true) else (B l, false)) := by
  unfold strings_CutPrefix.f stringslite_CutPrefix.f
  rw [hasp45, Option.bind_some]
  have h1 : (ByteArray.mk #[45]).size = 1 := rfl
  rw [h1]
  by_cases h : l.head? = some 45
  · rw [if_pos (decide_eq_true h), if_pos h]
    have hl : 1 ≤ l.length := by cases l with | nil => cases h | cons c r => simp
    rw [if_pos (by omega), if_pos (by rw [B_size]; omega)]
    have e : (B l).extract ((1 : Nat) : Int).toNat (B l).size = B (l.drop 1) := ex_drop l 1
    rw [e]; rfl
  · rw [if_neg (by simp [h]), if_neg h]; rfl
theorem dec_no45 (u : Nat) : (Lib.decDigits u).head? ≠ some 45 := by
  intro h
  have : (45 : UInt8) ∈ Lib.decDigits u := by
    cases hc : Lib.decDigits u with
    | nil => rw [hc] at h; cases h
    | cons c r => rw [hc] at h; simp only [List.head?_cons, Option.some.injEq] at h; rw [h]; exact List.mem_cons_self
  have := dec_Dec u 45 this
  revert this; decide
theorem one_f (g : List Int) (h : Nrm g) : exact_nat_one.f g = some (decide (V g = 1)) := by
  unfold exact_nat_one.f
  by_cases hl : g.length = 1
  · obtain ⟨d, rfl⟩ := List.length_eq_one_iff.1 hl
    rw [if_pos (by simp), if_pos (by simp)]
    have hd := h.1 d (by simp)
    have : rd [d] 0 = d := rfl
    rw [this]
    have hv : V [d] = d.toNat := by simp [V]
    rw [hv, Option.some.injEq, Bool.eq_iff_iff, beq_iff_eq, decide_eq_true_eq]
    omega
  · rw [if_neg (by omega)]
    have : V g ≠ 1 := by
      intro hv
      apply hl
      have : Nrm [(1 : Int)] := ⟨Dig.one (by decide), by decide⟩
      have := V_inj h this (by rw [hv]; rfl)
      rw [this]; rfl
    rw [decide_eq_false this]
/-- A text is read as a fraction, or there is an error. -/
theorem read_all (n d : List UInt8) (hn : n.length ≤ 9223372036854775807) (hd : d.length ≤ 9223372036854775807) : ∃ K, ∀ k, K ≤ k → ∃ (m : Bool) (N D : List Int) (e : Int), exact_read.f k (B n) (B d) = some (m, N, D, e) ∧
    (e = 0 → ∃ x : Q, qLow x ∧ n = numT x ∧ d = denT x ∧ V N = x.1.natAbs ∧ V D = x.2 ∧ m = decide (x.1 < 0) ∧ Nrm N ∧ Nrm D ∧ N.length ≤ 300 ∧ D.length ≤ 300) ∧
    (∀ x : Q, qLow x → n = numT x → d = denT x → (Lib.decDigits x.1.natAbs).length ≤ 300 → (denT x).length ≤ 300 → e = 0) := by
  obtain ⟨s, m, hcut, hs⟩ : ∃ (s : List UInt8) (m : Bool), strings_CutPrefix.f (B n) ⟨#[45]⟩ = some (B s, m) ∧ n = (if m = true then 45 :: s else s) := by
    rw [cutp45]
    by_cases h : n.head? = some 45
    · rw [if_pos h]
      refine ⟨n.drop 1, true, rfl, ?_⟩
      cases n with
      | nil => cases h
      | cons c r => simp only [List.head?_cons, Option.some.injEq] at h; rw [h]; rfl
    · rw [if_neg h]; exact ⟨n, false, rfl, rfl⟩
  have hsl : s.length ≤ 9223372036854775807 := by
    rw [hs] at hn
    cases m
    · exact hn
    · simp only [if_true, List.length_cons] at hn; omega
  obtain ⟨b1, hb1, hc1⟩ := digits_f s (by omega)
  obtain ⟨b2, hb2, hc2⟩ := digits_f d (by omega)
  -- what a fraction's text is cut into
  have hx : ∀ x : Q, n = numT x → s = Lib.decDigits x.1.natAbs ∧ m = decide (x.1 < 0) := by
    intro x hnx
    unfold numT sgL at hnx
    have h45 := dec_no45 x.1.natAbs
    cases m with
    | true =>
      rw [if_pos rfl] at hs
      by_cases hz : x.1 < 0
      · rw [if_pos hz, hs] at hnx
        simp only [List.cons_append, List.nil_append, List.cons.injEq, true_and] at hnx
        exact ⟨hnx, (decide_eq_true hz).symm⟩
      · rw [if_neg hz, hs, List.nil_append] at hnx
        rw [← hnx] at h45
        exact absurd rfl h45
    | false =>
      rw [if_neg (by decide)] at hs
      by_cases hz : x.1 < 0
      · exfalso
        rw [if_pos hz, hs] at hnx
        have : strings_CutPrefix.f (B n) ⟨#[45]⟩ = some (B (n.drop 1), true) := by
          rw [cutp45, if_pos (by rw [hs, hnx]; rfl)]
        rw [this] at hcut
        simp at hcut
      · rw [if_neg hz, hs, List.nil_append] at hnx
        exact ⟨hnx, (decide_eq_false hz).symm⟩
  refine ⟨dv d + 2000000000, fun k hk => ?_⟩
  obtain ⟨k, rfl⟩ : ∃ z, k = z + 2 := ⟨k - 2, by omega⟩
  unfold exact_read.f
  rw [hcut, Option.bind_some]
  simp only
  rw [hb1, Option.bind_some]
  -- where the form is wrong
  have wrong : ∀ (x4 : ByteArray) (x5 : Bool) , ¬ (Canon s ∧ Canon d ∧ d ≠ [48] ∧ ¬ (s = [48] ∧ m = true)) → ∃ (m' : Bool) (N D : List Int) (e : Int), exact_read.j0 (k + 2) x4 x5 true (B n) (B d) = some (m', N, D, e) ∧
    (e = 0 → ∃ x : Q, qLow x ∧ n = numT x ∧ d = denT x ∧ V N = x.1.natAbs ∧ V D = x.2 ∧ m' = decide (x.1 < 0) ∧ Nrm N ∧ Nrm D ∧ N.length ≤ 300 ∧ D.length ≤ 300) ∧
    (∀ x : Q, qLow x → n = numT x → d = denT x → (Lib.decDigits x.1.natAbs).length ≤ 300 → (denT x).length ≤ 300 → e = 0) := by
    intro x4 x5 hw
    refine ⟨false, [], [], 4, by simp only [exact_read.j0]; rfl, fun h => absurd h (by decide), fun x hlow hnx hdx _ _ => absurd ?_ hw⟩
    obtain ⟨e1, e2⟩ := hx x hnx
    refine ⟨by rw [e1]; exact dec_canon _, by rw [hdx]; exact dec_canon _, ?_, ?_⟩
    · intro e
      rw [hdx] at e
      have : dv (denT x) = dv [48] := by rw [e]
      unfold denT at this
      rw [dv_dec] at this
      have h0 : dv [48] = 0 := rfl
      have := hlow.1
      omega
    · rintro ⟨g1, g2⟩
      rw [e2] at g2
      have hneg := of_decide_eq_true g2
      rw [e1] at g1
      have : dv (Lib.decDigits x.1.natAbs) = dv [48] := by rw [g1]
      rw [dv_dec] at this
      have h0 : dv [48] = 0 := rfl
      omega
  by_cases c1 : Canon s
  · rw [if_pos (hc1.2 c1), hb2, Option.bind_some]
    by_cases c2 : Canon d
    · rw [if_pos (hc2.2 c2), B_list]
      by_cases c3 : d = [48]
      · rw [if_pos c3]
        exact wrong _ _ (fun h => h.2.2.1 c3)
      · rw [if_neg c3, B_list]
        -- the rest, where the form is right
        have right : (¬ (s = [48] ∧ m = true)) → ∃ (m' : Bool) (N D : List Int) (e : Int), exact_read.j0 (k + 2) (B s) m false (B n) (B d) = some (m', N, D, e) ∧
            (e = 0 → ∃ x : Q, qLow x ∧ n = numT x ∧ d = denT x ∧ V N = x.1.natAbs ∧ V D = x.2 ∧ m' = decide (x.1 < 0) ∧ Nrm N ∧ Nrm D ∧ N.length ≤ 300 ∧ D.length ≤ 300) ∧
            (∀ x : Q, qLow x → n = numT x → d = denT x → (Lib.decDigits x.1.natAbs).length ≤ 300 → (denT x).length ≤ 300 → e = 0) := by
          intro hz
          simp only [exact_read.j0, Bool.false_eq_true, if_false]
          by_cases hlen : s.length ≤ 300 ∧ d.length ≤ 300
          · rw [if_neg (by rw [B_size]; omega)]
            have hdf : decide (((B d).size : Int) > 300) = false := decide_eq_false (by rw [B_size]; omega)
            rw [hdf]
            simp only [exact_read.j1, Bool.false_eq_true, if_false]
            obtain ⟨N, p1, p2, p3, p4⟩ := parse_f s c1.2.1 (by omega) k (by omega)
            obtain ⟨D, q1, q2, q3, q4⟩ := parse_f d c2.2.1 (by omega) k (by omega)
            obtain ⟨g, g1, g2, g3, _⟩ := common_f (dv d) N D k p3 q3 (by omega) (by omega) (by omega) (by omega)
            rw [p1, Option.bind_some, q1, Option.bind_some, g1, Option.bind_some, one_f g g3, Option.bind_some, g2, p2, q2]
            have hdpos : 0 < dv d := by
              refine dv_pos d c2.1 c2.2.1 (fun e => c3 ?_)
              have := c2.2.2 e
              obtain ⟨y, rfl⟩ := List.length_eq_one_iff.1 this
              simp only [List.head?_cons, Option.some.injEq] at e
              rw [e]
            by_cases hg : Nat.gcd (dv s) (dv d) = 1
            · rw [if_pos (decide_eq_true hg)]
              refine ⟨m, N, D, 0, rfl, fun _ => ?_, fun _ _ _ _ _ _ => rfl⟩
              -- the fraction
              have hmz : m = true → dv s ≠ 0 := by
                intro hm h0
                apply hz
                refine ⟨?_, hm⟩
                rw [← dec_dv s c1, h0, dec_small 0 (by omega)]; rfl
              refine ⟨(if m = true then -((dv s : Nat) : Int) else ((dv s : Nat) : Int), dv d), ?_, ?_, ?_, ?_, q2, ?_, p3, q3, by omega, by omega⟩
              · refine ⟨hdpos, ?_⟩
                show Nat.gcd (Int.natAbs (if m = true then -((dv s : Nat) : Int) else ((dv s : Nat) : Int))) (dv d) = 1
                cases m
                · exact hg
                · simp only [if_true, Int.natAbs_neg]; exact hg
              · unfold numT sgL
                cases m with
                | false =>
                  simp only [Bool.false_eq_true, if_false] at hs ⊢
                  rw [if_neg (by omega), List.nil_append, Int.natAbs_natCast, dec_dv s c1, hs]
                | true =>
                  simp only [if_true] at hs ⊢
                  have := hmz rfl
                  rw [if_pos (by omega), Int.natAbs_neg, Int.natAbs_natCast, dec_dv s c1, hs]; rfl
              · unfold denT; rw [dec_dv d c2]
              · rw [p2]
                cases m
                · rfl
                · simp only [if_true, Int.natAbs_neg]; rfl
              · cases m with
                | false => simp only [Bool.false_eq_true, if_false]; exact (decide_eq_false (by omega)).symm
                | true =>
                  have := hmz rfl
                  simp only [if_true]
                  exact (decide_eq_true (by omega)).symm
            · rw [if_neg (by simp [hg])]
              refine ⟨false, [], [], 4, rfl, fun h => absurd h (by decide), fun x hlow hnx hdx _ _ => absurd ?_ hg⟩
              obtain ⟨e1, e2⟩ := hx x hnx
              rw [e1, hdx]
              unfold denT
              rw [dv_dec, dv_dec]
              exact hlow.2
          · have : (if ((B s).size : Int) > 300 then exact_read.j1 (k + 1) (B s) m true (B n) (B d) else exact_read.j1 (k + 1) (B s) m (decide (((B d).size : Int) > 300)) (B n) (B d)) = some (false, [], [], 3) := by
              by_cases h1 : s.length ≤ 300
              · rw [if_neg (by rw [B_size]; omega), decide_eq_true (show ((B d).size : Int) > 300 by rw [B_size]; omega)]
                rfl
              · rw [if_pos (by rw [B_size]; omega)]; rfl
            rw [this]
            refine ⟨false, [], [], 3, rfl, fun h => absurd h (by decide), fun x _ hnx hdx l1 l2 => absurd ?_ hlen⟩
            obtain ⟨e1, _⟩ := hx x hnx
            rw [e1, hdx]
            exact ⟨l1, l2⟩
        by_cases c4 : s = [48]
        · rw [if_pos c4]
          cases hm : m with
          | true => exact wrong _ _ (fun h => h.2.2.2 ⟨c4, hm⟩)
          | false =>
            have := right (by rw [hm]; simp)
            rw [hm] at this
            exact this
        · rw [if_neg c4]
          exact right (fun h => c4 h.1)
    · rw [if_neg (fun h => c2 (hc2.1 h))]
      exact wrong _ _ (fun h => c2 h.2.1)
  · rw [if_neg (fun h => c1 (hc1.1 h))]
    exact wrong _ _ (fun h => c1 h.1)
end Go.Proofs.YtefhcgnamfnkbaaGreatDoor.Pure
