/- ValueShownBack: what is shown is entered as the value (printed by wip/tools/mkgv.py). ValueShownBack: each kind of value (printed by wip/tools/mkgw.py). -/
import Derived.Test.YtckfdhnimmaeiaaGreatDoorGu
import Derived.Test.YtckfdhnimmaeiaaGreatDoorGp
namespace Go.Proofs.YtckfdhnimmaeiaaGreatDoor.Pr
open Go.RowKit Go.Proofs.YtckfdhnimmaeiaaGreatDoorW.PrintWords Go.Proofs.YtckfdhnimmaeiaaGreatDoorW.PrintLast Go.Proofs.YtckfdhnimmaeiaaGreatDoorW.PrintMore
open Go.Proofs.YtckfdhnimmaeiaaGreatDoor.Pure (B Dec isD sg pt Fit can sv dv nt dt qLow decT fW fP units near neg)
set_option linter.unusedVariables false
set_option linter.unusedSimpArgs false
/-- A letter of a decimal text. -/
def okD (c : UInt8) : Bool := isD c || c == 45 || c == 46
theorem isD_nat {c : UInt8} (h : isD c = true) : 48 ≤ c.toNat ∧ c.toNat ≤ 57 := of_decide_eq_true h
theorem okD_nat {c : UInt8} (h : okD c = true) : 45 ≤ c.toNat ∧ c.toNat ≤ 57 := by
  unfold okD at h
  simp only [Bool.or_eq_true, beq_iff_eq] at h
  rcases h with (h | rfl) | rfl
  · have := isD_nat h; omega
  · decide
  · decide
theorem dec_okD {l : List UInt8} (h : Dec l) : ∀ c ∈ l, okD c = true := fun c hc => by unfold okD; rw [h c hc]; rfl
theorem txt_okD (m : Bool) (W P : List UInt8) (hW : Dec W) (hP : Dec P) : ∀ c ∈ sg m ++ (W ++ pt P), okD c = true := by
  intro c hc
  rcases List.mem_append.1 hc with h | h
  · unfold sg at h
    split at h
    · rw [List.mem_singleton.1 h]; decide
    · cases h
  · rcases List.mem_append.1 h with h | h
    · exact dec_okD hW c h
    · unfold pt at h
      split at h
      · cases h
      · rcases List.mem_cons.1 h with rfl | h
        · decide
        · exact dec_okD hP c h
theorem head_ne {l : List UInt8} {r : List UInt8} {z : UInt8} (hl : ∀ c ∈ l, okD c = true) (h0 : l ≠ []) (hz : okD z = false) : ((B l).toList == (z :: r)) = false := by
  rw [ByteArray.toList_eq]
  show (l.toArray.toList == _) = false
  cases l with
  | nil => exact absurd rfl h0
  | cons a x =>
    refine beq_eq_false_iff_ne.2 (fun e => ?_)
    have e1 := (List.cons.inj (show a :: x = z :: r from by simpa using e)).1
    have := hl a List.mem_cons_self
    rw [e1, hz] at this
    cases this
theorem faults_35 {e : Nat} {f : ByteArray} (h1 : 1 ≤ e) (hf : faultsL[e]? = some f) : ∃ r, f.toList = 35 :: r := by
  have hn : e < 9 := (List.getElem?_eq_some_iff.1 hf).1
  have : e = 1 ∨ e = 2 ∨ e = 3 ∨ e = 4 ∨ e = 5 ∨ e = 6 ∨ e = 7 ∨ e = 8 := by omega
  rcases this with rfl | rfl | rfl | rfl | rfl | rfl | rfl | rfl <;> (obtain rfl := Option.some.inj hf; exact ⟨_, by rw [ByteArray.toList_eq]⟩)
theorem pt_suf (P : List UInt8) (hP : Dec P) (z : UInt8) (hz : isD z = false) : Lib.hasSuffix (pt P) [z] = false := by
  unfold pt
  split
  · rename_i h
    simp [Lib.hasSuffix, List.isSuffixOf, List.isPrefixOf]
  · rename_i h
    unfold Lib.hasSuffix
    refine Bool.eq_false_iff.2 (fun e => ?_)
    obtain ⟨x, hx⟩ := List.isSuffixOf_iff_suffix.1 e
    have h1 : (46 :: P).getLast? = some z := by rw [← hx, List.getLast?_concat]
    rw [List.getLast?_cons_of_ne_nil h] at h1
    have := hP z (List.mem_of_getLast? h1)
    rw [hz] at this
    cases this
theorem pt_44 (P : List UInt8) : (pt P).head? ≠ some 44 := by
  unfold pt
  split
  · intro h; cases h
  · intro h; cases h
theorem B_ne {l : List UInt8} (h : l ≠ []) : (B l).toList.isEmpty = false := by
  rw [ByteArray.toList_eq]
  cases l with
  | nil => exact absurd rfl h
  | cons a x => rfl
theorem check_zero {x : Pure.Q} (hx : qLow x) (fx : Fit x) : ∃ m, exact_Check.f m (nt x) (dt x) = some 0 := by
  obtain ⟨K, hK⟩ := Pure.read_num x hx fx
  obtain ⟨m, N, D, h, _⟩ := hK K (Nat.le_refl _)
  exact ⟨K, by unfold exact_Check.f; rw [h]; rfl⟩
/-- The reader of numbers at a decimal text. -/
theorem number_txt (m : Bool) (W P : List UInt8) (t o : ByteArray) (K : Nat) (hW : Dec W) (h0 : W ≠ []) (hP : Dec P) (hl : W.length + P.length ≤ 900) (hPar : exact_Parse.f K (B (sg m ++ (W ++ pt P))) = some (t, o, 0)) (w : World) (hGl : Gl w) :
    Calls Tryz.prog 44 #[.string (B (sg m ++ (W ++ pt P)))] w fun x w' => x = .returned (.tuple #[.agg #[.string t, .string o], .bool true]) ∧ Below w.heap.size w w' := by
  have hptl := Pure.pt_len P
  have hg := fun w hGl => grouped_B W (pt P) hW h0 (Pure.pt_head P) (pt_44 P) (by omega) w hGl
  have hsuf : Lib.hasSuffix (B (pt P)).data.toList [37] = false := pt_suf P hP 37 (by decide)
  obtain ⟨a, W', hW'⟩ : ∃ a W', W = a :: W' := by
    cases W with
    | nil => exact absurd rfl h0
    | cons a W' => exact ⟨a, W', rfl⟩
  have ha := isD_nat (hW a (by rw [hW']; exact List.mem_cons_self))
  cases m with
  | false =>
    have e1 : sg false ++ (W ++ pt P) = W ++ pt P := rfl
    rw [e1] at hPar ⊢
    have hsz : 0 < (B (W ++ pt P)).size := by rw [Pure.B_size, hW']; simp
    have hat : ((B (W ++ pt P))[0]'hsz) = a := by subst hW'; rfl
    exact number_pos _ (B W) (B (pt P)) t o K w hGl hsz (by rw [hat]; omega) (by rw [hat]; omega) hg (by rw [Pure.B_size, Pure.B_size]; omega) hsuf (by rw [Pure.B_app]; exact hPar) (B_ne h0)
  | true =>
    have e1 : sg true ++ (W ++ pt P) = [45] ++ (W ++ pt P) := rfl
    rw [e1] at hPar ⊢
    have hsz : 0 < (B ([45] ++ (W ++ pt P))).size := by rw [Pure.B_size]; simp
    have hu : (B ([45] ++ (W ++ pt P))).extract 1 (B ([45] ++ (W ++ pt P))).size = B (W ++ pt P) := by
      rw [Pure.B_size]
      exact Pure.B_of (by rw [ByteArray.data_extract, Array.toList_extract]; simp; rw [← List.length_append]; exact List.take_length)
    have hu0 : (B ([45] ++ (W ++ pt P))).extract 0 1 = ⟨#[45]⟩ := by
      have := Pure.ex_take ([45] ++ (W ++ pt P)) 1
      exact this
    refine number_neg _ (B (W ++ pt P)) (B W) (B (pt P)) t o K w hGl hsz rfl hu hu0 hg (by rw [Pure.B_size, Pure.B_size]; omega) hsuf ?_ (B_ne h0)
    have e2 : (⟨#[45]⟩ : ByteArray) = B [45] := rfl
    rw [e2, Pure.B_app, Pure.B_app, List.append_assoc]
    exact hPar
/-- A decimal text is entered as its number. -/
theorem enter_txt (m : Bool) (W P : List UInt8) (t o : ByteArray) (K K' : Nat) (hW : Dec W) (h0 : W ≠ []) (hP : Dec P) (hl : W.length + P.length ≤ 900) (hPar : exact_Parse.f K (B (sg m ++ (W ++ pt P))) = some (t, o, 0)) (hC : exact_Check.f K' t o = some 0) (w : World) (hW' : Wd w) :
    Calls Tryz.prog 15 #[.string (B (sg m ++ (W ++ pt P)))] w fun x w' => x = .returned (.agg #[.int .i64 1, .string t, .string o, .string ⟨#[]⟩, .bool false, .int .i64 0, .int .i64 0, .int .i64 0, .slice none 0 0]) ∧ Below w.heap.size w w' := by
  have hok := txt_okD m W P hW hP
  have hlen : (sg m ++ (W ++ pt P)).length ≤ 902 := by
    have := Pure.sg_len m
    have := Pure.pt_len P
    rw [List.length_append, List.length_append]; omega
  have hne : sg m ++ (W ++ pt P) ≠ [] := fun e => h0 (List.append_eq_nil_iff.1 (List.append_eq_nil_iff.1 e).2).1
  have hnum := fun w hGl => number_txt m W P t o K hW h0 hP hl hPar w hGl
  clear hPar
  generalize sg m ++ (W ++ pt P) = T at hok hlen hne hnum ⊢
  refine enter_num (B T) (B T) t o K' (B_ne hne) (fun w _ => text_plain (B T) w (by rw [Pure.B_size]; omega) (fun b hb => ?_)) ?_ (fun w => lower_plain (B T) w (by rw [Pure.B_size]; omega) (fun j hj => ?_)) (head_ne hok hne (by decide)) (head_ne hok hne (by decide)) (fun e f h1 _ hf => ?_) hnum hC w hW'
  · have := okD_nat (hok b (by simpa using hb)); omega
  · rw [Pure.cutp, if_neg]
    intro h
    have := hok 39 (List.mem_of_mem_head? h)
    revert this; decide
  · have hj' : j < T.length := by rw [Pure.B_size] at hj; exact hj
    have e : (B T).data.toList = T := by simp
    rw [e, List.getD_eq_getElem?_getD, List.getElem?_eq_getElem hj']
    have := okD_nat (hok T[j] (List.getElem_mem hj'))
    show ¬ (65 ≤ T[j].toNat ∧ T[j].toNat ≤ 90)
    omega
  · obtain ⟨r, hr⟩ := faults_35 h1 hf
    rw [hr]
    exact head_ne hok hne (by decide)
/-- A list without the zeros at its end. -/
theorem last_app {a b : List UInt8} (h : b ≠ []) : (a ++ b).getLast? = b.getLast? := by
  rw [List.getLast?_append, List.getLast?_eq_some_getLast h]
  rfl
theorem no_zeros : ∀ (k : Nat) (l : List UInt8), l.length = k → ∃ X n, l = X ++ List.replicate n 48 ∧ X.getLast? ≠ some 48
  | 0, l, h => ⟨[], 0, by rw [List.length_eq_zero_iff.1 h]; rfl, by decide⟩
  | k + 1, l, h => by
    by_cases hl : l.getLast? = some 48
    · have hne : l ≠ [] := fun e => by rw [e] at h; cases h
      have e1 : l = l.dropLast ++ [48] := by
        have h2 : l.getLast hne = 48 := Option.some.inj ((List.getLast?_eq_some_getLast hne).symm.trans hl)
        have h3 := List.dropLast_concat_getLast hne
        rw [h2] at h3
        exact h3.symm
      obtain ⟨X, j, hX, hX2⟩ := no_zeros k l.dropLast (by rw [List.length_dropLast, h]; rfl)
      exact ⟨X, j + 1, by rw [List.replicate_succ', ← List.append_assoc, ← hX]; exact e1, hX2⟩
    · exact ⟨l, 0, by simp, hl⟩
/-- What Fixed and the two trims make: a decimal text that is read as the same number. -/
theorem trim_txt (m : Bool) (W P : List UInt8) (hW : Dec W) (h0 : W ≠ []) (hP : Dec P) (hP0 : P ≠ []) (hl : W.length + P.length ≤ 900) (hf : Fit (can (sv m (dv (W ++ P)), 10 ^ P.length))) :
    ∃ (x1 : ByteArray) (P' : List UInt8), Dec P' ∧ P'.length ≤ P.length ∧ (∀ w, Calls Tryz.prog 84 #[.string (B (sg m ++ (W ++ pt P))), .string ⟨#[48]⟩] w fun e w' => e = .returned (.string x1) ∧ w' = w) ∧
      (∀ w, Calls Tryz.prog 83 #[.string x1, .string ⟨#[46]⟩] w fun e w' => e = .returned (.string (B (sg m ++ (W ++ pt P')))) ∧ w' = w) ∧ Fit (can (sv m (dv (W ++ P')), 10 ^ P'.length)) := by
  obtain ⟨P', n, hPP, hlast⟩ := no_zeros P.length P rfl
  have hlenP : P.length = P'.length + n := by rw [hPP, List.length_append, List.length_replicate]
  have hP' : Dec P' := fun c hc => hP c (by rw [hPP]; exact List.mem_append_left _ hc)
  have hsg := Pure.sg_len m
  have hpt : pt P = 46 :: P := by unfold pt; rw [if_neg hP0]
  have e1 : sg m ++ (W ++ pt P) = (sg m ++ (W ++ 46 :: P')) ++ List.replicate n 48 := by rw [hpt, hPP]; simp
  have hX : (sg m ++ (W ++ 46 :: P')).getLast? ≠ some 48 := by
    rw [last_app (by simp), last_app (by simp)]
    by_cases h : P' = []
    · rw [h]; decide
    · rw [List.getLast?_cons_of_ne_nil h]; exact hlast
  have hq : can (sv m (dv (W ++ P')), 10 ^ P'.length) = can (sv m (dv (W ++ P)), 10 ^ P.length) := by
    refine Pure.can_of_eq (Nat.pow_pos (by decide)) (Nat.pow_pos (by decide)) ?_
    have e2 : dv (W ++ P) = dv (W ++ P') * 10 ^ n := by
      rw [hPP, ← List.append_assoc, Pure.dv_app, Pure.dv_zeros, List.length_replicate, Nat.add_zero]
    have e3 : (10 : Nat) ^ P.length = 10 ^ P'.length * 10 ^ n := by rw [hlenP, Nat.pow_add]
    show sv m (dv (W ++ P')) * ((10 ^ P.length : Nat) : Int) = sv m (dv (W ++ P)) * ((10 ^ P'.length : Nat) : Int)
    rw [e2, e3]
    generalize dv (W ++ P') = a
    generalize (10 : Nat) ^ n = b
    generalize (10 : Nat) ^ P'.length = d
    have e4 : sv m (a * b) = sv m a * (b : Int) := by
      cases m
      · show ((a * b : Nat) : Int) = (a : Int) * (b : Int); exact Int.natCast_mul _ _
      · show -((a * b : Nat) : Int) = -(a : Int) * (b : Int); rw [Int.natCast_mul, Int.neg_mul]
    rw [e4, Int.natCast_mul, Int.mul_assoc, Int.mul_comm (b : Int) (d : Int)]
  have hlX : (sg m ++ (W ++ 46 :: P')).length + n ≤ 1000000 := by rw [List.length_append, List.length_append, List.length_cons]; omega
  refine ⟨B (sg m ++ (W ++ 46 :: P')), P', hP', by omega, fun w => ?_, fun w => ?_, by rw [hq]; exact hf⟩
  · rw [e1]
    exact trz84 _ hX n hlX (by simp) w
  · by_cases h : P' = []
    · have e5 : sg m ++ (W ++ 46 :: P') = (sg m ++ W) ++ [46] := by rw [h]; simp
      have e6 : sg m ++ (W ++ pt P') = sg m ++ W := by rw [h]; unfold pt; rw [if_pos rfl, List.append_nil]
      rw [e5, e6]
      exact tsd83 _ _ (fun w => tsd112 _ (by rw [List.length_append]; omega) w) w
    · have e6 : pt P' = 46 :: P' := by unfold pt; rw [if_neg h]
      rw [e6]
      refine tsd83 _ _ (fun w => tsn112 _ (by rw [Pure.B_size]; omega) ?_ w) w
      have e7 : (B (sg m ++ (W ++ 46 :: P'))).data.toList = sg m ++ (W ++ 46 :: P') := by simp
      rw [e7]
      unfold Lib.hasSuffix
      refine Bool.eq_false_iff.2 (fun e => ?_)
      obtain ⟨x, hx⟩ := List.isSuffixOf_iff_suffix.1 e
      have h1 : (sg m ++ (W ++ 46 :: P')).getLast? = some 46 := by rw [← hx, List.getLast?_concat]
      rw [last_app (by simp), last_app (by simp), List.getLast?_cons_of_ne_nil h] at h1
      have := hP' 46 (List.mem_of_getLast? h1)
      revert this; decide
theorem can_fit_check {q : Pure.Q} (h : 0 < q.2) (hf : Fit (can q)) : ∃ m, exact_Check.f m (nt (can q)) (dt (can q)) = some 0 := check_zero (Pure.can_qLow q h) hf
theorem sixteen : ((⟨#[35, 78, 85, 77, 33]⟩ : ByteArray).toList == [35, 78, 85, 77, 33]) = true := by decide +kernel
/-- #NUM! is entered as the fault. -/
theorem enter_fl (n : Nat) (S l : ByteArray) (h1 : 1 ≤ n) (hf : faultsL[n]? = some S) (hp : Plain7 S) (hs : S.size ≤ 100) (hh : S.data.toList.head? = some 35) (hl : lowF S = l) (hl0 : ∃ r, l.toList = 35 :: r) (hne : ∀ e f, 1 ≤ e → e < n → faultsL[e]? = some f → (S.toList == f.toList) = false) (w : World) (hW : Wd w) :
    Calls Tryz.prog 15 #[.string S] w fun x w' => x = .returned (.agg #[.int .i64 4, .string ⟨#[]⟩, .string ⟨#[]⟩, .string ⟨#[]⟩, .bool false, .int .i64 (n : Int), .int .i64 0, .int .i64 0, .slice none 0 0]) ∧ Below w.heap.size w w' := by
  obtain ⟨r, hr⟩ := hl0
  refine enter_fault S l n ?_ (fun w _ => text_plain S w (by omega) hp) ?_ (fun w => by rw [← hl]; exact lower_calls S w (by omega)) (by rw [hr]; rfl) (by rw [hr]; rfl) h1 hf hne w hW
  · rw [ByteArray.toList_eq]
    cases h : S.data.toList with
    | nil => rw [h] at hh; cases hh
    | cons a x => rfl
  · have : S = B S.data.toList := rfl
    rw [this, Pure.cutp, if_neg (by rw [hh]; decide)]
theorem enter_faults (n : Nat) (S : ByteArray) (h1 : 1 ≤ n) (hf : faultsL[n]? = some S) (w : World) (hW : Wd w) :
    Calls Tryz.prog 15 #[.string S] w fun x w' => x = .returned (.agg #[.int .i64 4, .string ⟨#[]⟩, .string ⟨#[]⟩, .string ⟨#[]⟩, .bool false, .int .i64 (n : Int), .int .i64 0, .int .i64 0, .slice none 0 0]) ∧ Below w.heap.size w w' := by
  have hn : n < 9 := (List.getElem?_eq_some_iff.1 hf).1
  have : n = 1 ∨ n = 2 ∨ n = 3 ∨ n = 4 ∨ n = 5 ∨ n = 6 ∨ n = 7 ∨ n = 8 := by omega
  rcases this with rfl | rfl | rfl | rfl | rfl | rfl | rfl | rfl <;>
    (obtain rfl := Option.some.inj hf
     refine enter_fl _ _ _ h1 hf (fun b hb => by revert b; decide) (by decide) rfl rfl ⟨_, by rw [ByteArray.toList_eq]; rfl⟩ (fun e f he hen hef => ?_) w hW
     have : e = 1 ∨ e = 2 ∨ e = 3 ∨ e = 4 ∨ e = 5 ∨ e = 6 ∨ e = 7 := by omega
     rcases this with rfl | rfl | rfl | rfl | rfl | rfl | rfl <;> first | (exfalso; omega) | (obtain rfl := Option.some.inj hef; decide +kernel))
end Go.Proofs.YtckfdhnimmaeiaaGreatDoor.Pr
namespace Go.Proofs.YtckfdhnimmaeiaaGreatDoor.Pr
open Go.RowKit Go.Proofs.YtckfdhnimmaeiaaGreatDoorW.PrintWords Go.Proofs.YtckfdhnimmaeiaaGreatDoorW.PrintLast Go.Proofs.YtckfdhnimmaeiaaGreatDoorW.PrintMore
open Go.Proofs.YtckfdhnimmaeiaaGreatDoor.Pure (B Dec isD sg pt Fit can sv dv nt dt qLow decT fW fP units near neg)
set_option linter.unusedVariables false
set_option linter.unusedSimpArgs false
theorem near_len {x : Pure.Q} (fx : Fit x) : (Lib.decDigits (near x 12)).length ≤ 700 := by
  obtain ⟨a, ha⟩ : ∃ a, a = x.1.natAbs * 10 ^ 12 := ⟨_, rfl⟩
  have h2 : near x 12 ≤ a + a + x.2 := by
    unfold near
    rw [← ha]
    exact Nat.div_le_self _ _
  have h3 := Pure.dec_lt x.2
  have e12 : ∃ n : Nat, n = 300 := ⟨_, rfl⟩
  obtain ⟨n, hn⟩ := e12
  have h4 : x.1.natAbs < 10 ^ n := Nat.lt_of_lt_of_le (Pure.dec_lt x.1.natAbs) (Nat.pow_le_pow_right (by decide) (by rw [hn]; exact fx.1))
  have h5 : x.2 < 10 ^ n := Nat.lt_of_lt_of_le h3 (Nat.pow_le_pow_right (by decide) (by rw [hn]; exact fx.2))
  have h6 : near x 12 < 10 ^ (n + 14) := by
    have h7 : 10 ^ (n + 14) = 10 ^ n * 100000000000000 := by rw [Nat.pow_add]
    have h8 : (10 : Nat) ^ 12 = 1000000000000 := rfl
    rw [h8] at ha
    rw [h7]
    generalize (10 : Nat) ^ n = M at h4 h5
    omega
  have := Pure.dec_len_le (n + 13) _ h6
  omega
theorem back_num_false (x : Pure.Q) (hx : qLow x) (fx : Fit x) (p : Option Addr) (p0 : Nat) (s0 f : ByteArray) (m : Nat) (e : Int) (hS : exact_Shortest.f m (nt x) (dt x) = some (s0, false, 0)) (hF : exact_Fixed.f m (nt x) (dt x) 12 = some (f, e)) (hf2 : e = 0 → f = B (decT (neg x) (near x 12) 12) ∧ Fit (can (sv (neg x) (near x 12), 10 ^ 12)))
    (hC : ∀ w, Wd w → Calls Tryz.prog 10 #[.agg #[.int .i64 1, .string (nt x), .string (dt x), .string ⟨#[]⟩, .bool false, .int .i64 0, .int .i64 0, .int .i64 0, .slice p 0 p0]] w fun x w' => x = .returned (.int .i64 0) ∧ Below w.heap.size w w') (w : World) (hW : Wd w) :
    Calls Tryz.prog 5 #[.agg #[.int .i64 1, .string (nt x), .string (dt x), .string ⟨#[]⟩, .bool false, .int .i64 0, .int .i64 0, .int .i64 0, .slice p 0 p0]] w fun x w' => x = .returned (.bool true) ∧ Below w.heap.size w w' := by
  by_cases he : e = 0
  · obtain ⟨hf, hfit⟩ := hf2 he
    subst he
    have h1 := Pure.fP_len (near x 12) 12
    have h2 := Pure.fW_len (near x 12) 12
    have h3 := Pure.full_len (near x 12) 12
    have hdec : (Lib.decDigits (near x 12)).length ≤ 700 := near_len fx
    have hdv : dv (fW (near x 12) 12 ++ fP (near x 12) 12) = near x 12 := by rw [Pure.full_app, Pure.dv_full]
    have hP0 : fP (near x 12) 12 ≠ [] := fun e => by rw [e] at h1; cases h1
    obtain ⟨x1, P', hP', hPl, t1, t2, hfit2⟩ := trim_txt (neg x && decide (near x 12 ≠ 0)) (fW (near x 12) 12) (fP (near x 12) 12) (Pure.fW_Dec _ _) (Pure.fW_ne _ _) (Pure.fP_Dec _ _) hP0 (by omega) (by rw [hdv, Pure.sv_and, h1]; exact hfit)
    obtain ⟨K', hK'⟩ := can_fit_check (Nat.pow_pos (by decide)) hfit2
    have hPar := Pure.Parse_f (neg x && decide (near x 12 ≠ 0)) (fW (near x 12) 12) P' (Pure.fW_Dec _ _) (Pure.fW_ne _ _) hP' (by omega) hfit2 (10 ^ P'.length + 3000000000) (Nat.le_refl _)
    have hD := fun w hW => decimal_fix_false (nt x) (dt x) s0 f x1 _ m hS hF (fun w => by rw [hf]; exact t1 w) t2 w (Wd.gl hW)
    have hne : sg (neg x && decide (near x 12 ≠ 0)) ++ (fW (near x 12) 12 ++ pt P') ≠ [] := fun e => Pure.fW_ne (near x 12) 12 (List.append_eq_nil_iff.1 (List.append_eq_nil_iff.1 e).2).1
    exact back_other_false_k (nt x) (dt x) ⟨#[]⟩ false 0 0 0 p p0 _ s0 m _ _ ⟨#[]⟩ false 0 0 0 hS (head_ne (txt_okD _ _ _ (Pure.fW_Dec _ _) hP') hne (by decide)) hC
      (fun w hW => show_gen 1 (nt x) (dt x) ⟨#[]⟩ false 0 0 0 p 0 p0 _ hC (fun w hW => shown_1 (nt x) (dt x) ⟨#[]⟩ false 0 0 0 p 0 p0 _ hD w hW) w hW)
      (fun w hW => enter_txt _ _ P' _ _ _ K' (Pure.fW_Dec _ _) (Pure.fW_ne _ _) hP' (by omega) hPar hK' w hW) w hW
  · obtain ⟨n5, h5⟩ : ∃ n5, faultsL[5]? = some n5 := ⟨_, rfl⟩
    have hD := fun w hW => decimal_over_false (nt x) (dt x) s0 f n5 m e he hS hF h5 w hW
    have hq : (n5.toList == [35, 78, 85, 77, 33]) = true := by obtain rfl := Option.some.inj h5; exact sixteen
    exact back_other_false_n (nt x) (dt x) ⟨#[]⟩ false 0 0 0 p p0 n5 s0 m 4 ⟨#[]⟩ ⟨#[]⟩ ⟨#[]⟩ false ((5 : Nat) : Int) 0 0 hS hq hC
      (fun w hW => show_gen 1 (nt x) (dt x) ⟨#[]⟩ false 0 0 0 p 0 p0 _ hC (fun w hW => shown_1 (nt x) (dt x) ⟨#[]⟩ false 0 0 0 p 0 p0 _ hD w hW) w hW)
      (fun w hW => enter_faults 5 n5 (by decide) h5 w hW) w hW
theorem back_num_true (x : Pure.Q) (hx : qLow x) (fx : Fit x) (p : Option Addr) (p0 : Nat) (s0 f : ByteArray) (m : Nat) (e : Int) (hS : exact_Shortest.f m (nt x) (dt x) = some (s0, true, 0)) (h40 : 40 < s0.size) (hF : exact_Fixed.f m (nt x) (dt x) 12 = some (f, e)) (hf2 : e = 0 → f = B (decT (neg x) (near x 12) 12) ∧ Fit (can (sv (neg x) (near x 12), 10 ^ 12)))
    (hC : ∀ w, Wd w → Calls Tryz.prog 10 #[.agg #[.int .i64 1, .string (nt x), .string (dt x), .string ⟨#[]⟩, .bool false, .int .i64 0, .int .i64 0, .int .i64 0, .slice p 0 p0]] w fun x w' => x = .returned (.int .i64 0) ∧ Below w.heap.size w w') (w : World) (hW : Wd w) :
    Calls Tryz.prog 5 #[.agg #[.int .i64 1, .string (nt x), .string (dt x), .string ⟨#[]⟩, .bool false, .int .i64 0, .int .i64 0, .int .i64 0, .slice p 0 p0]] w fun x w' => x = .returned (.bool true) ∧ Below w.heap.size w w' := by
  by_cases he : e = 0
  · obtain ⟨hf, hfit⟩ := hf2 he
    subst he
    have h1 := Pure.fP_len (near x 12) 12
    have h2 := Pure.fW_len (near x 12) 12
    have h3 := Pure.full_len (near x 12) 12
    have hdec : (Lib.decDigits (near x 12)).length ≤ 700 := near_len fx
    have hdv : dv (fW (near x 12) 12 ++ fP (near x 12) 12) = near x 12 := by rw [Pure.full_app, Pure.dv_full]
    have hP0 : fP (near x 12) 12 ≠ [] := fun e => by rw [e] at h1; cases h1
    obtain ⟨x1, P', hP', hPl, t1, t2, hfit2⟩ := trim_txt (neg x && decide (near x 12 ≠ 0)) (fW (near x 12) 12) (fP (near x 12) 12) (Pure.fW_Dec _ _) (Pure.fW_ne _ _) (Pure.fP_Dec _ _) hP0 (by omega) (by rw [hdv, Pure.sv_and, h1]; exact hfit)
    obtain ⟨K', hK'⟩ := can_fit_check (Nat.pow_pos (by decide)) hfit2
    have hPar := Pure.Parse_f (neg x && decide (near x 12 ≠ 0)) (fW (near x 12) 12) P' (Pure.fW_Dec _ _) (Pure.fW_ne _ _) hP' (by omega) hfit2 (10 ^ P'.length + 3000000000) (Nat.le_refl _)
    have hD := fun w hW => decimal_fix_true (nt x) (dt x) s0 f x1 _ m hS h40 hF (fun w => by rw [hf]; exact t1 w) t2 w (Wd.gl hW)
    have hne : sg (neg x && decide (near x 12 ≠ 0)) ++ (fW (near x 12) 12 ++ pt P') ≠ [] := fun e => Pure.fW_ne (near x 12) 12 (List.append_eq_nil_iff.1 (List.append_eq_nil_iff.1 e).2).1
    exact back_other_true_k (nt x) (dt x) ⟨#[]⟩ false 0 0 0 p p0 _ s0 m _ _ ⟨#[]⟩ false 0 0 0 hS h40 (head_ne (txt_okD _ _ _ (Pure.fW_Dec _ _) hP') hne (by decide)) hC
      (fun w hW => show_gen 1 (nt x) (dt x) ⟨#[]⟩ false 0 0 0 p 0 p0 _ hC (fun w hW => shown_1 (nt x) (dt x) ⟨#[]⟩ false 0 0 0 p 0 p0 _ hD w hW) w hW)
      (fun w hW => enter_txt _ _ P' _ _ _ K' (Pure.fW_Dec _ _) (Pure.fW_ne _ _) hP' (by omega) hPar hK' w hW) w hW
  · obtain ⟨n5, h5⟩ : ∃ n5, faultsL[5]? = some n5 := ⟨_, rfl⟩
    have hD := fun w hW => decimal_over_true (nt x) (dt x) s0 f n5 m e he hS h40 hF h5 w hW
    have hq : (n5.toList == [35, 78, 85, 77, 33]) = true := by obtain rfl := Option.some.inj h5; exact sixteen
    exact back_other_true_n (nt x) (dt x) ⟨#[]⟩ false 0 0 0 p p0 n5 s0 m 4 ⟨#[]⟩ ⟨#[]⟩ ⟨#[]⟩ false ((5 : Nat) : Int) 0 0 hS h40 hq hC
      (fun w hW => show_gen 1 (nt x) (dt x) ⟨#[]⟩ false 0 0 0 p 0 p0 _ hC (fun w hW => shown_1 (nt x) (dt x) ⟨#[]⟩ false 0 0 0 p 0 p0 _ hD w hW) w hW)
      (fun w hW => enter_faults 5 n5 (by decide) h5 w hW) w hW
/-- A number that is shown in full. -/
theorem back_num_good (x : Pure.Q) (hx : qLow x) (fx : Fit x) (p : Option Addr) (p0 : Nat) (u m : Nat) (hd : x.2 ∣ 10 ^ u) (hS : exact_Shortest.f m (nt x) (dt x) = some (B (decT (neg x) (units x u) u), true, 0)) (h40 : (B (decT (neg x) (units x u) u)).size ≤ 40)
    (hC : ∀ w, Wd w → Calls Tryz.prog 10 #[.agg #[.int .i64 1, .string (nt x), .string (dt x), .string ⟨#[]⟩, .bool false, .int .i64 0, .int .i64 0, .int .i64 0, .slice p 0 p0]] w fun x w' => x = .returned (.int .i64 0) ∧ Below w.heap.size w w') (w : World) (hW : Wd w) :
    Calls Tryz.prog 5 #[.agg #[.int .i64 1, .string (nt x), .string (dt x), .string ⟨#[]⟩, .bool false, .int .i64 0, .int .i64 0, .int .i64 0, .slice p 0 p0]] w fun x w' => x = .returned (.bool true) ∧ Below w.heap.size w w' := by
  have h1 := Pure.fP_len (units x u) u
  have h2 := Pure.fW_len (units x u) u
  have h3 := Pure.full_len (units x u) u
  have h4 : (Lib.decDigits (units x u)).length ≤ (Pure.full (units x u) u).length := by unfold Pure.full; rw [List.length_append]; omega
  have h5 : (decT (neg x) (units x u) u).length ≤ 40 := by rw [← Pure.B_size]; exact h40
  have h6 : u ≤ 40 ∧ (Lib.decDigits (units x u)).length ≤ 80 := by
    unfold decT at h5
    rw [List.length_append, List.length_append] at h5
    have h7 : (fP (units x u) u).length ≤ (pt (fP (units x u) u)).length := by unfold pt; split; (rename_i e; rw [e]; exact Nat.le_refl _); (rw [List.length_cons]; omega)
    omega
  have hcan := Pure.units_can hx hd
  have hPar := Pure.parse_decT (neg x) (units x u) u (10 ^ u + 3000000000) (by omega) (by omega) (by rw [hcan]; exact fx) (Nat.le_refl _)
  rw [hcan] at hPar
  obtain ⟨K', hK'⟩ := check_zero hx fx
  exact back_good (nt x) (dt x) ⟨#[]⟩ false 0 0 0 p p0 _ _ m hS h40 hC
    (fun w hW => show_gen 1 (nt x) (dt x) ⟨#[]⟩ false 0 0 0 p 0 p0 _ hC (fun w hW => shown_1 (nt x) (dt x) ⟨#[]⟩ false 0 0 0 p 0 p0 _ (fun w hW => decimal_yes (nt x) (dt x) _ m w (Wd.gl hW) hS h40) w hW) w hW)
    (fun w hW => enter_txt _ _ _ _ _ _ K' (Pure.fW_Dec _ _) (Pure.fW_ne _ _) (Pure.fP_Dec _ _) (by omega) hPar hK' w hW) w hW
theorem back_num (x : Pure.Q) (hx : qLow x) (fx : Fit x) (p : Option Addr) (p0 : Nat)
    (hC : ∀ w, Wd w → Calls Tryz.prog 10 #[.agg #[.int .i64 1, .string (nt x), .string (dt x), .string ⟨#[]⟩, .bool false, .int .i64 0, .int .i64 0, .int .i64 0, .slice p 0 p0]] w fun x w' => x = .returned (.int .i64 0) ∧ Below w.heap.size w w') (w : World) (hW : Wd w) :
    Calls Tryz.prog 5 #[.agg #[.int .i64 1, .string (nt x), .string (dt x), .string ⟨#[]⟩, .bool false, .int .i64 0, .int .i64 0, .int .i64 0, .slice p 0 p0]] w fun x w' => x = .returned (.bool true) ∧ Below w.heap.size w w' := by
  obtain ⟨K1, g1⟩ := Pure.shortest_all x hx fx
  obtain ⟨K2, g2⟩ := Pure.fixed_all x hx fx
  obtain ⟨s0, ok, hS, yes⟩ := g1 (K1 + K2) (by omega)
  obtain ⟨f, e, hF, hf2⟩ := g2 (K1 + K2) (by omega)
  cases ok with
  | false => exact back_num_false x hx fx p p0 s0 f _ e hS hF hf2 hC w hW
  | true =>
    by_cases h40 : s0.size ≤ 40
    · obtain ⟨u, _, u2, rfl⟩ := yes rfl
      exact back_num_good x hx fx p p0 u _ u2 hS h40 hC w hW
    · exact back_num_true x hx fx p p0 s0 f _ e hS (by omega) hF hf2 hC w hW
theorem true_low : lowF ⟨#[84, 82, 85, 69]⟩ = ⟨#[116, 114, 117, 101]⟩ := rfl
theorem false_low : lowF ⟨#[70, 65, 76, 83, 69]⟩ = ⟨#[102, 97, 108, 115, 101]⟩ := rfl
theorem text_more {s : ByteArray} (h : textF s = 0) (hs : s.size < 32767) : textF (⟨#[39]⟩ ++ s) = 0 := by
  have hsz : (⟨#[39]⟩ ++ s : ByteArray).size = 1 + s.size := by rw [ByteArray.size_append]; rfl
  unfold textF at h ⊢
  rw [if_neg (by omega)] at h
  rw [hsz, if_neg (by omega)]
  have hB : (⟨#[39]⟩ ++ s : ByteArray) = B (39 :: s.data.toList) := Pure.B_of (by simp)
  have hd : Lib.decodeGo (⟨#[39]⟩ ++ s) = (39, 1) := by
    unfold Lib.decodeGo
    rw [if_neg (by omega), Lib.decode_at]
    have h0 : ((⟨#[39]⟩ ++ s : ByteArray).get! 0).toNat = 39 := by rw [hB]; rfl
    rw [h0]
    unfold Lib.decodeN
    rw [if_pos (by decide)]
  have hc : charB 39 = true := by decide
  have hx : (⟨#[39]⟩ ++ s : ByteArray).extract 1 (1 + s.size) = s := by
    have e1 : (⟨#[39]⟩ : ByteArray).size = 1 := rfl
    exact ByteArray.extract_append_eq_right e1.symm (by rw [e1])
  have h2 : textR (1 + s.size + 1) (⟨#[39]⟩ ++ s) = textR (1 + s.size) s := by
    show (if (⟨#[39]⟩ ++ s : ByteArray).size = 0 then 0 else if ((Lib.decodeGo (⟨#[39]⟩ ++ s)).1 = 65533 ∧ (Lib.decodeGo (⟨#[39]⟩ ++ s)).2 = 1) ∨ charB (Lib.decodeGo (⟨#[39]⟩ ++ s)).1 = false then 23 else textR (1 + s.size) ((⟨#[39]⟩ ++ s : ByteArray).extract (Lib.decodeGo (⟨#[39]⟩ ++ s)).2 (⟨#[39]⟩ ++ s : ByteArray).size)) = _
    rw [hsz, if_neg (by omega), hd]
    show (if (((39 : Nat) = 65533 ∧ (1 : Nat) = 1) ∨ charB ((39 : Nat) : Int) = false) then 23 else textR (1 + s.size) ((⟨#[39]⟩ ++ s : ByteArray).extract 1 (1 + s.size))) = _
    rw [if_neg (by decide), hx]
  rw [h2, Nat.add_comm]
  exact h
theorem shown_calls (k : Int) (t o s : ByteArray) (b : Bool) (c r q : Int) (p : Option Addr) (n p0 : Nat) (ht : t.size ≤ maxLen) (ho : o.size ≤ maxLen) (hs : s.size ≤ maxLen) (w : World) (hW : Wd w) (hI : Itm w p n) :
    Calls Tryz.prog 5 #[.agg #[.int .i64 k, .string t, .string o, .string s, .bool b, .int .i64 c, .int .i64 r, .int .i64 q, .slice p n p0]] w fun x w' => x = .returned (.bool true) ∧ Below w.heap.size w w' := by
  by_cases h5 : k = 5
  · subst h5
    exact back_arr t o s b c r q p n p0 (fun w hW hI => check_arr t o s b c r q p n p0 w hW hI) w hW hI
  by_cases hlo : k < 0
  · exact back_early k t o s b c r q p n p0 8 (by decide) (fun w _ => check_lo k t o s b c r q p n p0 hlo w) w hW
  by_cases hhi : 5 < k
  · exact back_early k t o s b c r q p n p0 8 (by decide) (fun w _ => check_hi k t o s b c r q p n p0 hhi w) w hW
  obtain ⟨e, hz, hzr⟩ := zeros_any k ⟨by omega, by omega⟩ t o s b c r q p n p0
  by_cases he : e ≠ 0
  · exact back_early k t o s b c r q p n p0 e he (fun w _ => check_bad k t o s b c r q p n p0 hlo hhi e he hz w) w hW
  obtain rfl : e = 0 := Decidable.not_not.1 he
  obtain ⟨x1, x2, x3, x4, x5⟩ := hzr rfl
  obtain ⟨rfl, rfl, rfl⟩ := x5.resolve_left h5
  have hk : k = 0 ∨ k = 1 ∨ k = 2 ∨ k = 3 ∨ k = 4 := by omega
  clear hzr hlo hhi h5 x5
  rcases hk with rfl | rfl | rfl | rfl | rfl
  · obtain ⟨rfl, rfl⟩ := x1.resolve_left (by decide)
    obtain rfl := x2.resolve_left (by decide)
    obtain rfl := x3.resolve_left (by decide)
    obtain rfl := x4.resolve_left (by decide)
    have hC := fun w hW => check_k0 ⟨#[]⟩ ⟨#[]⟩ ⟨#[]⟩ false 0 0 0 p 0 p0 hz w hW
    exact back_rest 0 ⟨#[]⟩ ⟨#[]⟩ ⟨#[]⟩ false 0 0 0 p p0 ⟨#[]⟩ (by decide) (by decide) (by decide) hC (fun w hW => show_gen 0 ⟨#[]⟩ ⟨#[]⟩ ⟨#[]⟩ false 0 0 0 p 0 p0 _ hC (fun w hW => shown_0 ⟨#[]⟩ ⟨#[]⟩ ⟨#[]⟩ false 0 0 0 p 0 p0 w hW) w hW) (fun w _ => enter_empty w) w hW
  · obtain rfl := x2.resolve_left (by decide)
    obtain rfl := x3.resolve_left (by decide)
    obtain rfl := x4.resolve_left (by decide)
    obtain ⟨m, e, h1, h2⟩ := check_frac t o ht ho
    have hC := fun w hW => check_k1 t o ⟨#[]⟩ false 0 0 0 p 0 p0 m e h1 hz w hW
    by_cases he : e = 0
    · obtain ⟨x, hx, fx, rfl, rfl⟩ := h2 he
      rw [he] at hC
      exact back_num x hx fx p p0 hC w hW
    · exact back_early 1 t o ⟨#[]⟩ false 0 0 0 p 0 p0 e he hC w hW
  · obtain ⟨rfl, rfl⟩ := x1.resolve_left (by decide)
    obtain rfl := x3.resolve_left (by decide)
    obtain rfl := x4.resolve_left (by decide)
    have hC := fun w hW => check_k2 ⟨#[]⟩ ⟨#[]⟩ s false 0 0 0 p 0 p0 hs hz w hW
    by_cases he : textF s = 0
    · rw [he] at hC
      have hD := fun w hW => show_gen 2 ⟨#[]⟩ ⟨#[]⟩ s false 0 0 0 p 0 p0 _ hC (fun w hW => shown_2 ⟨#[]⟩ ⟨#[]⟩ s false 0 0 0 p 0 p0 w hW) w hW
      have hsm := text_small he
      by_cases hl : s.size = 32767
      · exact back_long ⟨#[]⟩ ⟨#[]⟩ s false 0 0 0 p p0 hl hC hD w hW
      · have hsz : (⟨#[39]⟩ ++ s : ByteArray).size = 1 + s.size := by rw [ByteArray.size_append]; rfl
        have hB : (⟨#[39]⟩ ++ s : ByteArray) = B (39 :: s.data.toList) := Pure.B_of (by simp)
        have hm := text_more he (by omega)
        obtain ⟨S', hS'⟩ : ∃ S', (⟨#[39]⟩ ++ s : ByteArray) = S' := ⟨_, rfl⟩
        rw [hS'] at hsz hB hm
        have hT : ∀ w, Wd w → Calls Tryz.prog 20 #[.string S'] w fun x w' => x = .returned (.int .i64 0) ∧ Below w.heap.size w w' := fun w hW => by
          have := text_calls S' w hW.u8 (by rw [hsz]; unfold maxLen; omega)
          rw [hm] at this
          exact this
        have hp : strings_CutPrefix.f S' ⟨#[39]⟩ = some (s, true) := by
          rw [hB, Pure.cutp]
          exact congrArg some (if_pos rfl)
        have hne : S'.toList.isEmpty = false := by rw [hB]; exact B_ne (by simp)
        exact back_text ⟨#[]⟩ ⟨#[]⟩ s false 0 0 0 p p0 hl hsm S' hS' hC hD (fun w hW => enter_text S' s hne hT hp hs he w hW) w hW
    · exact back_early 2 ⟨#[]⟩ ⟨#[]⟩ s false 0 0 0 p 0 p0 (textF s) he hC w hW
  · obtain ⟨rfl, rfl⟩ := x1.resolve_left (by decide)
    obtain rfl := x2.resolve_left (by decide)
    obtain rfl := x4.resolve_left (by decide)
    have hC := fun w hW => check_k3 ⟨#[]⟩ ⟨#[]⟩ ⟨#[]⟩ b 0 0 0 p 0 p0 hz w hW
    cases b with
    | true =>
      refine back_rest 3 ⟨#[]⟩ ⟨#[]⟩ ⟨#[]⟩ true 0 0 0 p p0 ⟨#[84, 82, 85, 69]⟩ (by decide) (by decide) (by decide) hC (fun w hW => show_gen 3 ⟨#[]⟩ ⟨#[]⟩ ⟨#[]⟩ true 0 0 0 p 0 p0 _ hC (fun w hW => shown_3t ⟨#[]⟩ ⟨#[]⟩ ⟨#[]⟩ true 0 0 0 p 0 p0 w hW) w hW) (fun w hW => ?_) w hW
      exact enter_true ⟨#[84, 82, 85, 69]⟩ ⟨#[116, 114, 117, 101]⟩ (by decide +kernel) (fun w _ => text_plain _ w (by decide) (fun b hb => by revert b; decide)) (by decide +kernel) (fun w => by rw [← true_low]; exact lower_calls _ w (by decide)) (by decide +kernel) w hW
    | false =>
      refine back_rest 3 ⟨#[]⟩ ⟨#[]⟩ ⟨#[]⟩ false 0 0 0 p p0 ⟨#[70, 65, 76, 83, 69]⟩ (by decide) (by decide) (by decide) hC (fun w hW => show_gen 3 ⟨#[]⟩ ⟨#[]⟩ ⟨#[]⟩ false 0 0 0 p 0 p0 _ hC (fun w hW => shown_3f ⟨#[]⟩ ⟨#[]⟩ ⟨#[]⟩ false 0 0 0 p 0 p0 w hW) w hW) (fun w hW => ?_) w hW
      exact enter_false ⟨#[70, 65, 76, 83, 69]⟩ ⟨#[102, 97, 108, 115, 101]⟩ (by decide +kernel) (fun w _ => text_plain _ w (by decide) (fun b hb => by revert b; decide)) (by decide +kernel) (fun w => by rw [← false_low]; exact lower_calls _ w (by decide)) (by decide +kernel) (by decide +kernel) w hW
  · obtain ⟨rfl, rfl⟩ := x1.resolve_left (by decide)
    obtain rfl := x2.resolve_left (by decide)
    obtain rfl := x3.resolve_left (by decide)
    by_cases hc : c < 1 ∨ 9 ≤ c
    · exact back_early 4 ⟨#[]⟩ ⟨#[]⟩ ⟨#[]⟩ false c 0 0 p 0 p0 2 (by decide) (fun w hW => check_k4b ⟨#[]⟩ ⟨#[]⟩ ⟨#[]⟩ false c 0 0 p 0 p0 ⟨#[]⟩ (fun w _ => fault_no c hc w) rfl hz w hW) w hW
    · obtain ⟨n, rfl⟩ : ∃ n : Nat, c = (n : Int) := ⟨c.toNat, by omega⟩
      have hn1 : 1 ≤ n := by omega
      obtain ⟨f, hf⟩ : ∃ f, faultsL[n]? = some f := ⟨_, List.getElem?_eq_getElem (by show n < 9; omega)⟩
      have hC := fun w hW => check_k4a ⟨#[]⟩ ⟨#[]⟩ ⟨#[]⟩ false (n : Int) 0 0 p 0 p0 f (fun w hF => fault_at n f hn1 hf w hF) (faults_ne hn1 hf) hz w hW
      exact back_rest 4 ⟨#[]⟩ ⟨#[]⟩ ⟨#[]⟩ false (n : Int) 0 0 p p0 f (by decide) (by decide) (by decide) hC (fun w hW => show_gen 4 ⟨#[]⟩ ⟨#[]⟩ ⟨#[]⟩ false (n : Int) 0 0 p 0 p0 _ hC (fun w hW => shown_4 ⟨#[]⟩ ⟨#[]⟩ ⟨#[]⟩ false (n : Int) 0 0 p 0 p0 f (fun w hF => fault_at n f hn1 hf w hF) w hW) w hW) (fun w hW => enter_faults n f hn1 hf w hW) w hW
end Go.Proofs.YtckfdhnimmaeiaaGreatDoor.Pr
