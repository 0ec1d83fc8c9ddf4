/- The lengths of the codes, in plain Lean: none above 15. The lengths of the codes, in plain Lean: Kraft's inequality. The lengths of the codes, in plain Lean: every symbol that occurs has one. The shares of the codes, in plain Lean: codes are permitted. -/
import Derived.Test.YtefhcgnamfnkbaaDoorSbl
import Derived.Test.YtefhcgnamfnkbaaDoorSya
namespace Go.Proofs.YtefhcgnamfnkbaaDoor.Sb
/-- How often j occurs in bundles. -/
def cntB (j : Nat) (l : List (Nat × List Nat)) : Nat := (l.flatMap (·.2)).count j
theorem cntB_app (j : Nat) (l m : List (Nat × List Nat)) : cntB j (l ++ m) = cntB j l + cntB j m := by
  unfold cntB
  rw [List.flatMap_append, List.count_append]
theorem cntB_cons (j : Nat) (b : Nat × List Nat) (l : List (Nat × List Nat)) : cntB j (b :: l) = b.2.count j + cntB j l := by
  unfold cntB
  rw [List.flatMap_cons, List.count_append]
theorem cntB_perm (j : Nat) {l m : List (Nat × List Nat)} (h : l.Perm m) : cntB j l = cntB j m := (h.flatMap_right _).count_eq j
theorem cntB_pairs (j : Nat) : ∀ l : List (Nat × List Nat), cntB j (pairs l) ≤ cntB j l
  | a :: b :: t => by
    have := cntB_pairs j t
    show cntB j ((a.1 + b.1, a.2 ++ b.2) :: pairs t) ≤ _
    rw [cntB_cons, cntB_cons, cntB_cons, List.count_append]
    omega
  | [_] => by simp [pairs, cntB]
  | [] => Nat.le_refl _
theorem leaves_flat : ∀ us : List (Nat × Nat), (leaves us).flatMap (·.2) = us.map (·.1)
  | [] => rfl
  | u :: us => by
    have := leaves_flat us
    unfold leaves at this ⊢
    rw [List.map_cons, List.flatMap_cons, this]; rfl
theorem used_nodup (ys : List Nat) (i : Nat) : ((used ys i).map (·.1)).Nodup := by
  have e : (used ys i).map (·.1) = (List.range i).filter (fun j => decide (0 < ys.count j)) := by
    unfold used
    rw [List.map_map]
    exact List.map_id _
  rw [e]
  exact List.Nodup.sublist List.filter_sublist List.nodup_range
theorem cntB_leaves {us : List (Nat × Nat)} (h : (us.map (·.1)).Nodup) (j : Nat) : cntB j (leaves us) ≤ 1 := by
  unfold cntB
  rw [leaves_flat]
  exact List.nodup_iff_count.1 h j
theorem cntB_level {us : List (Nat × Nat)} (h : (us.map (·.1)).Nodup) (j : Nat) : ∀ r, cntB j (level us r) ≤ r
  | 0 => by simp [level, cntB]
  | r + 1 => by
    have h1 := cntB_level h j r
    have h2 := cntB_pairs j (level us r)
    have h3 := cntB_leaves h j
    show cntB j (sortB (pairs (level us r) ++ leaves us)) ≤ _
    rw [cntB_perm j (sortB_perm _), cntB_app]
    omega
theorem lensOf_le {us : List (Nat × Nat)} (h : (us.map (·.1)).Nodup) (j : Nat) : lensOf us j ≤ 15 := by
  unfold lensOf
  split
  · split <;> omega
  · have h1 := cntB_level h j 15
    have h2 : cntB j ((level us 15).take (2 * us.length - 2)) + cntB j ((level us 15).drop (2 * us.length - 2)) = cntB j (level us 15) := by
      rw [← cntB_app, List.take_append_drop]
    show cntB j ((level us 15).take (2 * us.length - 2)) ≤ 15
    omega
end Go.Proofs.YtefhcgnamfnkbaaDoor.Sb
namespace Go.Proofs.YtefhcgnamfnkbaaDoor.Sb
variable {α : Type}
/-- A part of a list is a part of its two parts. -/
theorem part_two : ∀ (X Y B C : List α), (B ++ C).Perm (X ++ Y) → ∃ B1 B2 C1 C2 : List α, B.Perm (B1 ++ B2) ∧ (B1 ++ C1).Perm X ∧ (B2 ++ C2).Perm Y
  | [], Y, B, C, h => ⟨[], B, [], C, List.Perm.refl _, List.Perm.refl _, h⟩
  | x :: X, Y, B, C, h => by
    have hx : x ∈ B ++ C := h.mem_iff.2 (List.mem_cons_self ..)
    rcases List.mem_append.1 hx with hx | hx
    · obtain ⟨s, t, rfl⟩ := List.append_of_mem hx
      have h2 : ((s ++ t) ++ C).Perm (X ++ Y) := by
        refine (List.perm_cons x).1 (List.Perm.trans ?_ h)
        rw [List.append_assoc, List.append_assoc]
        exact (List.perm_middle (a := x) (l₁ := s) (l₂ := t ++ C)).symm
      obtain ⟨B1, B2, C1, C2, e1, e2, e3⟩ := part_two X Y (s ++ t) C h2
      exact ⟨x :: B1, B2, C1, C2, List.perm_middle.trans ((List.perm_cons x).2 e1), (List.perm_cons x).2 e2, e3⟩
    · obtain ⟨s, t, rfl⟩ := List.append_of_mem hx
      have h2 : (B ++ (s ++ t)).Perm (X ++ Y) := by
        refine (List.perm_cons x).1 (List.Perm.trans ?_ h)
        rw [← List.append_assoc, ← List.append_assoc]
        exact (List.perm_middle (a := x) (l₁ := B ++ s) (l₂ := t)).symm
      obtain ⟨B1, B2, C1, C2, e1, e2, e3⟩ := part_two X Y B (s ++ t) h2
      exact ⟨B1, B2, x :: C1, C2, e1, List.perm_middle.trans ((List.perm_cons x).2 e2), e3⟩
/-- A part of the pairs is, taken apart, a part of the items. -/
theorem part_pairs : ∀ (l P C : List (Nat × List Nat)), (P ++ C).Perm (pairs l) → ∃ B D : List (Nat × List Nat), (B ++ D).Perm l ∧ B.length = 2 * P.length ∧ ∀ j, cntB j B = cntB j P
  | a :: b :: t, P, C, h => by
    have h' : (P ++ C).Perm ([(a.1 + b.1, a.2 ++ b.2)] ++ pairs t) := h
    obtain ⟨P1, P2, C1, C2, e1, e2, e3⟩ := part_two _ _ _ _ h'
    obtain ⟨B, D, f1, f2, f3⟩ := part_pairs t P2 C2 e3
    have hl := e1.length_eq
    have hl2 := e2.length_eq
    rw [List.length_append] at hl hl2
    have hl3 : P1.length + C1.length = 1 := hl2
    by_cases hp : P1 = []
    · subst hp
      refine ⟨B, a :: b :: D, ?_, by rw [f2, hl]; simp, fun j => ?_⟩
      · exact List.perm_middle.trans ((List.perm_cons a).2 (List.perm_middle.trans ((List.perm_cons b).2 f1)))
      · rw [f3, cntB_perm j e1]; rfl
    · have hp1 : P1.length ≠ 0 := fun e => hp (List.eq_nil_of_length_eq_zero e)
      have hc : C1 = [] := List.eq_nil_of_length_eq_zero (by omega)
      subst hc
      rw [List.append_nil] at e2
      refine ⟨a :: b :: B, D, (List.perm_cons a).2 ((List.perm_cons b).2 f1), ?_, fun j => ?_⟩
      · simp only [List.length_cons]; omega
      · rw [cntB_cons, cntB_cons, f3, cntB_perm j e1, cntB_app, cntB_perm j e2, cntB_cons]
        show a.2.count j + (b.2.count j + cntB j P2) = (a.2 ++ b.2).count j + cntB j [] + cntB j P2
        rw [List.count_append]
        show _ = _ + 0 + _
        omega
  | [x], P, C, h => by
    have h' : (P ++ C).Perm [] := h
    have hn := List.perm_nil.1 h'
    obtain ⟨rfl, rfl⟩ := List.append_eq_nil_iff.1 hn
    exact ⟨[], [x], List.Perm.refl _, rfl, fun _ => rfl⟩
  | [], P, C, h => by
    have h' : (P ++ C).Perm [] := h
    have hn := List.perm_nil.1 h'
    obtain ⟨rfl, rfl⟩ := List.append_eq_nil_iff.1 hn
    exact ⟨[], [], List.Perm.refl _, rfl, fun _ => rfl⟩
/-- The share that c steps have taken. -/
def shr (c : Nat) : Nat := 32768 - 2 ^ (15 - c)
theorem shr_step (c e : Nat) (hc : c ≤ 14) (he : e ≤ 1) : shr c + e * 32768 ≤ 2 * shr (c + e) := by
  unfold shr
  have h1 : 2 ^ (15 - c) = 2 * 2 ^ (15 - (c + 1)) := by
    rw [show 15 - c = (15 - (c + 1)) + 1 from by omega, Nat.pow_succ]; omega
  have h2 : 2 ^ (15 - c) ≤ 2 ^ 15 := Nat.pow_le_pow_right (by omega) (by omega)
  have h3 : (2 : Nat) ^ 15 = 32768 := by decide
  rcases Nat.eq_zero_or_pos e with rfl | h0
  · show 32768 - 2 ^ (15 - c) + 0 * 32768 ≤ 2 * (32768 - 2 ^ (15 - c))
    omega
  · obtain rfl : e = 1 := by omega
    omega
theorem sum_le {f g : Nat → Nat} : ∀ (l : List Nat), (∀ s ∈ l, f s ≤ g s) → (l.map f).sum ≤ (l.map g).sum
  | [], _ => Nat.le_refl _
  | x :: l, h => by
    have h1 := h x (List.mem_cons_self ..)
    have h2 := sum_le l (fun s hs => h s (List.mem_cons_of_mem _ hs))
    simp only [List.map_cons, List.sum_cons]; omega
theorem sum_two (f g : Nat → Nat) (k c : Nat) : ∀ (l : List Nat), (l.map fun s => f s + g s * k).sum = (l.map f).sum + (l.map g).sum * k
  | [] => by simp
  | x :: l => by
    simp only [List.map_cons, List.sum_cons, sum_two f g k c l, Nat.add_mul]; omega
theorem sum_mul (f : Nat → Nat) (k : Nat) : ∀ (l : List Nat), (l.map fun s => k * f s).sum = k * (l.map f).sum
  | [] => by simp
  | x :: l => by simp only [List.map_cons, List.sum_cons, sum_mul f k l, Nat.mul_add]
theorem sum_zero : ∀ l : List Nat, (l.map fun _ => 0).sum = 0
  | [] => rfl
  | _ :: l => by simp only [List.map_cons, List.sum_cons, sum_zero l]
/-- Each leaf counts once. -/
theorem sum_count (L : List Nat) (hL : L.Nodup) : ∀ (M : List Nat), (∀ x ∈ M, x ∈ L) → (L.map fun s => M.count s).sum = M.length
  | [], _ => by
    have : (L.map fun s => ([] : List Nat).count s) = L.map fun _ => 0 := List.map_congr_left fun s _ => rfl
    rw [this, sum_zero]; rfl
  | x :: M, h => by
    have ih := sum_count L hL M (fun y hy => h y (List.mem_cons_of_mem _ hy))
    have e : (L.map fun s => (x :: M).count s) = L.map fun s => M.count s + (if x = s then 1 else 0) * 1 := List.map_congr_left fun s _ => by
      rw [List.count_cons, Nat.mul_one]; simp
    rw [e, sum_two (fun s => M.count s) (fun s => if x = s then 1 else 0) 1 0, ih, Nat.mul_one, List.length_cons]
    congr 1
    have hx := h x (List.mem_cons_self ..)
    clear e ih h
    induction L with
    | nil => cases hx
    | cons a l ih2 =>
      simp only [List.map_cons, List.sum_cons]
      by_cases ha : x = a
      · subst ha
        have hnot := (List.nodup_cons.1 hL).1
        have hz : (l.map fun s => if x = s then 1 else 0) = l.map fun _ => 0 := List.map_congr_left fun s hs => by
          rw [if_neg (fun e : x = s => hnot (e ▸ hs))]
        rw [if_pos rfl, hz]
        rw [sum_zero]
      · rw [if_neg ha, ih2 (List.nodup_cons.1 hL).2 (by
          rcases List.mem_cons.1 hx with e | e
          · exact absurd e ha
          · exact e)]
theorem share_end {b b' p v S1 S2 : Nat} (h1 : b' * 16384 ≤ S1) (h2 : S1 + v * 32768 ≤ 2 * S2) (h3 : b' = 2 * p) (h4 : b = p + v) : b * 16384 ≤ S2 := by
  subst h3 h4
  have e1 : 2 * ((p + v) * 16384) = 2 * p * 16384 + v * 32768 := by
    rw [Nat.add_mul, Nat.mul_add, Nat.mul_assoc 2 p, ← Nat.mul_assoc 2 v, Nat.mul_comm 2 v, Nat.mul_assoc v 2]
  refine Nat.le_of_mul_le_mul_left (c := 2) ?_ (show 0 < 2 from Nat.succ_pos 1)
  rw [e1]
  exact Nat.le_trans (Nat.add_le_add_right h1 _) h2
/-- A part of a level takes half a share for each of its items, at least. -/
theorem part_share {us : List (Nat × Nat)} (h : (us.map (·.1)).Nodup) : ∀ (r : Nat) (B C : List (Nat × List Nat)), r ≤ 15 → (B ++ C).Perm (level us r) → B.length * 16384 ≤ ((us.map (·.1)).map fun s => shr (cntB s B)).sum
  | 0, B, C, _, hp => by
    have hn := List.perm_nil.1 (show (B ++ C).Perm [] from hp)
    obtain ⟨rfl, rfl⟩ := List.append_eq_nil_iff.1 hn
    simp
  | r + 1, B, C, hr, hp => by
    have hp2 : (B ++ C).Perm (pairs (level us r) ++ leaves us) := hp.trans (sortB_perm _)
    obtain ⟨P, V, C1, C2, e1, e2, e3⟩ := part_two _ _ _ _ hp2
    obtain ⟨B', D, f1, f2, f3⟩ := part_pairs _ P C1 e2
    have ih := part_share h r B' D (by omega) f1
    have hlB := e1.length_eq
    rw [List.length_append] at hlB
    have hv : ∀ s, cntB s V ≤ 1 := fun s => by
      have h1 := cntB_leaves h s
      rw [← cntB_perm s e3, cntB_app] at h1
      omega
    have hc : ∀ s, cntB s B' ≤ 14 := fun s => by
      have h1 := cntB_level h s r
      rw [← cntB_perm s f1, cntB_app] at h1
      omega
    have hs : ∀ s ∈ us.map (·.1), shr (cntB s B') + cntB s V * 32768 ≤ 2 * shr (cntB s B) := fun s _ => by
      have e : cntB s B = cntB s B' + cntB s V := by rw [cntB_perm s e1, cntB_app, f3]
      rw [e]
      exact shr_step _ _ (hc s) (hv s)
    have hsum := sum_le (us.map (·.1)) hs
    rw [sum_two (fun s => shr (cntB s B')) (fun s => cntB s V) 32768 0, sum_mul (fun s => shr (cntB s B)) 2] at hsum
    -- the leaves
    have hV : ((us.map (·.1)).map fun s => cntB s V).sum = V.length := by
      have hfl : (V.flatMap (·.2)).length = V.length := by
        have hall : ∀ b ∈ V, b.2.length = 1 := fun b hb => by
          have hm : b ∈ leaves us := e3.mem_iff.1 (List.mem_append_left _ hb)
          obtain ⟨u, _, rfl⟩ := List.mem_map.1 hm
          rfl
        clear hsum ih e1 e2 e3 f1 f2 f3 hv hlB hs hp2 hp
        induction V with
        | nil => rfl
        | cons b V ihV =>
          rw [List.flatMap_cons, List.length_append, hall b (List.mem_cons_self ..), ihV (fun b' hb' => hall b' (List.mem_cons_of_mem _ hb')), List.length_cons]
          omega
      rw [← hfl]
      refine sum_count _ h (V.flatMap (·.2)) (fun x hx => ?_)
      have hx2 : x ∈ (leaves us).flatMap (·.2) := by
        rw [← (e3.flatMap_right (·.2)).mem_iff, List.flatMap_append]
        exact List.mem_append_left _ hx
      rwa [leaves_flat] at hx2
    rw [hV] at hsum
    exact share_end ih hsum f2 hlB
theorem level_long (us : List (Nat × Nat)) (h : us.length ≤ 16384) (h0 : 0 < us.length) : ∀ r, 1 ≤ r → 2 * us.length ≤ (level us r).length + us.length / 2 ^ (r - 1) + 1
  | 1, _ => by
    have := level_length us 0
    rw [show level us 0 = [] from rfl] at this
    simp at this
    simp; omega
  | r + 2, _ => by
    have ih := level_long us h h0 (r + 1) (by omega)
    have h1 := level_length us (r + 1)
    have h2 : us.length / 2 ^ (r + 1) = us.length / 2 ^ r / 2 := by rw [Nat.pow_succ, Nat.div_div_eq_div_mul]
    rw [show r + 2 - 1 = r + 1 from rfl, h2, h1]
    rw [show r + 1 - 1 = r from rfl] at ih
    generalize us.length / 2 ^ r = d at ih ⊢
    omega
/-- KRAFT: the codes' shares are one together, or less. -/
theorem kraft {us : List (Nat × Nat)} (h : (us.map (·.1)).Nodup) (h2 : 2 ≤ us.length) (hm : us.length ≤ 16384) : ((us.map (·.1)).map fun s => 2 ^ (15 - lensOf us s)).sum ≤ 32768 := by
  have h1 : ¬ us.length = 1 := by omega
  have hl := level_long us hm (by omega) 15 (by omega)
  have hd : us.length / 2 ^ (15 - 1) ≤ 1 := Nat.le_trans (Nat.div_le_div_right hm) (by decide)
  generalize us.length / 2 ^ (15 - 1) = d at hl hd
  have hB := part_share h 15 ((level us 15).take (2 * us.length - 2)) ((level us 15).drop (2 * us.length - 2)) (Nat.le_refl _) (by rw [List.take_append_drop])
  have hlen : ((level us 15).take (2 * us.length - 2)).length = 2 * us.length - 2 := by rw [List.length_take]; omega
  rw [hlen] at hB
  have e : ∀ s, shr (cntB s ((level us 15).take (2 * us.length - 2))) + 2 ^ (15 - lensOf us s) * 1 = 32768 := fun s => by
    have e1 : lensOf us s = cntB s ((level us 15).take (2 * us.length - 2)) := by unfold lensOf; rw [if_neg h1]; rfl
    have e2 : 2 ^ (15 - lensOf us s) ≤ 2 ^ 15 := Nat.pow_le_pow_right (by omega) (by omega)
    have e3 : (2 : Nat) ^ 15 = 32768 := by decide
    unfold shr
    rw [← e1]
    omega
  have hs := sum_two (fun s => shr (cntB s ((level us 15).take (2 * us.length - 2)))) (fun s => 2 ^ (15 - lensOf us s)) 1 0 (us.map (·.1))
  have hc : ((us.map (·.1)).map fun s => shr (cntB s ((level us 15).take (2 * us.length - 2))) + 2 ^ (15 - lensOf us s) * 1) = (us.map (·.1)).map fun _ => 32768 := List.map_congr_left fun s _ => e s
  rw [hc] at hs
  have hk : ∀ l : List Nat, (l.map fun _ => 32768).sum = l.length * 32768 := fun l => by
    induction l with
    | nil => rfl
    | cons a l ih => simp only [List.map_cons, List.sum_cons, List.length_cons]; rw [ih]; omega
  rw [hk, List.length_map] at hs
  omega
end Go.Proofs.YtefhcgnamfnkbaaDoor.Sb
namespace Go.Proofs.YtefhcgnamfnkbaaDoor.Sb
/-- A part of the pairs, taken apart: its items weigh less than their pairs. -/
theorem part_light : ∀ (l P C : List (Nat × List Nat)), (∀ x ∈ l, 0 < x.1) → (P ++ C).Perm (pairs l) → ∃ B D : List (Nat × List Nat), (B ++ D).Perm l ∧ B.length = 2 * P.length ∧ ∀ b ∈ B, ∃ p ∈ P, b.1 < p.1
  | a :: b :: t, P, C, hw, h => by
    have h' : (P ++ C).Perm ([(a.1 + b.1, a.2 ++ b.2)] ++ pairs t) := h
    obtain ⟨P1, P2, C1, C2, e1, e2, e3⟩ := part_two _ _ _ _ h'
    obtain ⟨B, D, f1, f2, f3⟩ := part_light t P2 C2 (fun x hx => hw x (List.mem_cons_of_mem _ (List.mem_cons_of_mem _ hx))) e3
    have hl := e1.length_eq
    have hl2 := e2.length_eq
    rw [List.length_append] at hl hl2
    have hl3 : P1.length + C1.length = 1 := hl2
    have ha := hw a (List.mem_cons_self ..)
    have hb := hw b (List.mem_cons_of_mem _ (List.mem_cons_self ..))
    by_cases hp : P1 = []
    · subst hp
      refine ⟨B, a :: b :: D, ?_, by rw [f2, hl]; simp, fun x hx => ?_⟩
      · exact List.perm_middle.trans ((List.perm_cons a).2 (List.perm_middle.trans ((List.perm_cons b).2 f1)))
      · obtain ⟨p, hp, hlt⟩ := f3 x hx
        exact ⟨p, e1.mem_iff.2 (List.mem_append_right _ hp), hlt⟩
    · have hp1 : P1.length ≠ 0 := fun e => hp (List.eq_nil_of_length_eq_zero e)
      have hc : C1 = [] := List.eq_nil_of_length_eq_zero (by omega)
      subst hc
      rw [List.append_nil] at e2
      have hm : (a.1 + b.1, a.2 ++ b.2) ∈ P := e1.mem_iff.2 (List.mem_append_left _ (e2.mem_iff.2 (List.mem_singleton.2 rfl)))
      refine ⟨a :: b :: B, D, (List.perm_cons a).2 ((List.perm_cons b).2 f1), ?_, fun x hx => ?_⟩
      · simp only [List.length_cons]; omega
      · rcases List.mem_cons.1 hx with rfl | hx
        · exact ⟨_, hm, by show x.1 < x.1 + b.1; omega⟩
        · rcases List.mem_cons.1 hx with rfl | hx
          · exact ⟨_, hm, by show x.1 < a.1 + x.1; omega⟩
          · obtain ⟨p, hp, hlt⟩ := f3 x hx
            exact ⟨p, e1.mem_iff.2 (List.mem_append_right _ hp), hlt⟩
  | [x], P, C, hw, h => by
    have h' : (P ++ C).Perm [] := h
    obtain ⟨rfl, rfl⟩ := List.append_eq_nil_iff.1 (List.perm_nil.1 h')
    exact ⟨[], [x], List.Perm.refl _, rfl, fun _ h => by cases h⟩
  | [], P, C, hw, h => by
    have h' : (P ++ C).Perm [] := h
    obtain ⟨rfl, rfl⟩ := List.append_eq_nil_iff.1 (List.perm_nil.1 h')
    exact ⟨[], [], List.Perm.refl _, rfl, fun _ h => by cases h⟩
theorem pairs_pos : ∀ l : List (Nat × List Nat), (∀ x ∈ l, 0 < x.1) → ∀ x ∈ pairs l, 0 < x.1
  | a :: b :: t, hw, x, hx => by
    rcases List.mem_cons.1 (show x ∈ (a.1 + b.1, a.2 ++ b.2) :: pairs t from hx) with rfl | hx
    · have := hw a (List.mem_cons_self ..)
      show 0 < a.1 + b.1
      omega
    · exact pairs_pos t (fun x hx => hw x (List.mem_cons_of_mem _ (List.mem_cons_of_mem _ hx))) x hx
  | [_], _, x, hx => by cases hx
  | [], _, x, hx => by cases hx
theorem level_pos {us : List (Nat × Nat)} (h : ∀ u ∈ us, 0 < u.2) : ∀ r, ∀ x ∈ level us r, 0 < x.1
  | 0, x, hx => by cases hx
  | r + 1, x, hx => by
    have hx2 := (sortB_perm _).mem_iff.1 (show x ∈ sortB (pairs (level us r) ++ leaves us) from hx)
    rcases List.mem_append.1 hx2 with hx | hx
    · exact pairs_pos _ (level_pos h r) x hx
    · obtain ⟨u, hu, rfl⟩ := List.mem_map.1 hx
      exact h u hu
/-- Of a level, fewer than 2 U - 2 items weigh less than a given leaf. -/
theorem few_light {us : List (Nat × Nat)} (h : ∀ u ∈ us, 0 < u.2) (h2 : 2 ≤ us.length) {u : Nat × Nat} (hu : u ∈ us) : ∀ (r : Nat) (B C : List (Nat × List Nat)), (B ++ C).Perm (level us r) → (∀ b ∈ B, b.1 < u.2) → B.length + 3 ≤ 2 * us.length
  | 0, B, C, hp, _ => by
    obtain ⟨rfl, rfl⟩ := List.append_eq_nil_iff.1 (List.perm_nil.1 (show (B ++ C).Perm [] from hp))
    simp; omega
  | r + 1, B, C, hp, hB => by
    have hp2 : (B ++ C).Perm (pairs (level us r) ++ leaves us) := hp.trans (sortB_perm _)
    obtain ⟨P, V, C1, C2, e1, e2, e3⟩ := part_two _ _ _ _ hp2
    obtain ⟨B', D, f1, f2, f3⟩ := part_light _ P C1 (level_pos h r) e2
    have ih := few_light h h2 hu r B' D f1 (fun b hb => by
      obtain ⟨p, hp, hlt⟩ := f3 b hb
      have := hB p (e1.mem_iff.2 (List.mem_append_left _ hp))
      omega)
    have hlB := e1.length_eq
    rw [List.length_append] at hlB
    have hlV := e3.length_eq
    rw [List.length_append] at hlV
    have hl3 : (leaves us).length = us.length := by simp [leaves]
    have hm : (u.2, [u.1]) ∈ leaves us := List.mem_map.2 ⟨u, hu, rfl⟩
    have hC2 : 0 < C2.length := by
      rcases List.mem_append.1 (e3.mem_iff.2 hm) with hv | hc
      · have := hB _ (e1.mem_iff.2 (List.mem_append_right _ hv))
        exact absurd this (Nat.lt_irrefl _)
      · exact List.length_pos_of_mem hc
    omega
theorem sortB_sorted {bs : List (Nat × List Nat)} (h : bs.length ≤ 1000000) : (sortB bs).Pairwise (fun x y => x.1 ≤ y.1) := by
  unfold sortB
  rw [List.pairwise_map]
  refine List.Pairwise.imp_of_mem (fun {x y} hx hy hxy => ?_) (sortL_sorted rkB bs.zipIdx)
  have hy2 := (sortL_perm rkB bs.zipIdx).mem_iff.1 hy
  have hi : y.2 < bs.length := by
    have := List.snd_lt_of_mem_zipIdx hy2
    omega
  unfold rkB at hxy
  omega
/-- Every symbol that occurs has a length. -/
theorem lens_pos {us : List (Nat × Nat)} (h : ∀ u ∈ us, 0 < u.2) (h2 : 2 ≤ us.length) (hm : us.length ≤ 272) {u : Nat × Nat} (hu : u ∈ us) : 1 ≤ lensOf us u.1 := by
  have h1 : ¬ us.length = 1 := by omega
  have el : lensOf us u.1 = cntB u.1 ((level us 15).take (2 * us.length - 2)) := by unfold lensOf; rw [if_neg h1]; rfl
  rw [el]
  rcases Nat.eq_zero_or_pos (cntB u.1 ((level us 15).take (2 * us.length - 2))) with h0 | h0
  · exfalso
    have hl := level_long us (by omega) (by omega) 15 (by omega)
    have hd : us.length / 2 ^ (15 - 1) ≤ 1 := Nat.le_trans (Nat.div_le_div_right (show us.length ≤ 16384 by omega)) (by decide)
    generalize us.length / 2 ^ (15 - 1) = d at hl hd
    have hlT : ((level us 15).take (2 * us.length - 2)).length = 2 * us.length - 2 := by rw [List.length_take]; omega
    have hll : ∀ r, (level us r).length ≤ 2 * us.length := fun r => by
      induction r with
      | zero => simp [level]
      | succ r ih => rw [level_length]; omega
    have hsort : (level us 15).Pairwise (fun x y => x.1 ≤ y.1) := by
      refine sortB_sorted (bs := pairs (level us 14) ++ leaves us) ?_
      have := hll 15
      rw [show level us 15 = sortB (pairs (level us 14) ++ leaves us) from rfl, sortB_length] at this
      omega
    have hperm : ((level us 15).take (2 * us.length - 2) ++ (level us 15).drop (2 * us.length - 2)).Perm (pairs (level us 14) ++ leaves us) := by
      rw [List.take_append_drop]
      exact sortB_perm (pairs (level us 14) ++ leaves us)
    rw [← List.take_append_drop (2 * us.length - 2) (level us 15)] at hsort
    have hcross := (List.pairwise_append.1 hsort).2.2
    generalize (level us 15).take (2 * us.length - 2) = T at hperm hcross hlT h0
    generalize (level us 15).drop (2 * us.length - 2) = R at hperm hcross
    have hmem : (u.2, [u.1]) ∈ leaves us := List.mem_map.2 ⟨u, hu, rfl⟩
    have hnT : (u.2, [u.1]) ∉ T := fun hT => by
      obtain ⟨s, t, rfl⟩ := List.append_of_mem hT
      rw [cntB_app, cntB_cons] at h0
      simp at h0
    have hzR : (u.2, [u.1]) ∈ R := by
      rcases List.mem_append.1 (hperm.mem_iff.2 (List.mem_append_right _ hmem)) with e | e
      · exact absurd e hnT
      · exact e
    obtain ⟨P, V, C1, C2, e1, e2, e3⟩ := part_two _ _ _ _ hperm
    obtain ⟨B', D, f1, f2, f3⟩ := part_light _ P C1 (level_pos h 14) e2
    have hfew := few_light h h2 hu 14 B' D f1 (fun b hb => by
      obtain ⟨p, hp, hlt⟩ := f3 b hb
      have := hcross p (e1.mem_iff.2 (List.mem_append_left _ hp)) _ hzR
      exact Nat.lt_of_lt_of_le hlt this)
    have hlB := e1.length_eq
    rw [List.length_append] at hlB
    have hlV := e3.length_eq
    rw [List.length_append] at hlV
    have hl3 : (leaves us).length = us.length := by simp [leaves]
    have hC2 : 0 < C2.length := by
      rcases List.mem_append.1 (e3.mem_iff.2 hmem) with hv | hc
      · exact absurd (e1.mem_iff.2 (List.mem_append_right _ hv)) hnT
      · exact List.length_pos_of_mem hc
    omega
  · exact h0
end Go.Proofs.YtefhcgnamfnkbaaDoor.Sb
namespace Go.Proofs.YtefhcgnamfnkbaaDoor.Sb
/-- A symbol's share. -/
def shareOf (ln : Nat → Nat) (m s : Nat) : Nat := if 1 ≤ ln s ∧ ln s ≤ m then 2 ^ (15 - ln s) else 0
def sumE (ln : Nat → Nat) (e : Nat) : Nat → Nat
  | 0 => 0
  | n + 1 => sumE ln e n + cntL ln (n + 1) e * 2 ^ (15 - (n + 1))
theorem sumE_all (ln : Nat → Nat) : ∀ m, sumE ln 272 m = sumTo ln m
  | 0 => rfl
  | m + 1 => by
    show sumE ln 272 m + cntL ln (m + 1) 272 * _ = sumTo ln m + ofLen ln (m + 1) * _
    rw [sumE_all ln m]
    unfold ofLen
    rw [if_neg (Nat.succ_ne_zero m)]
theorem sumE_zero (ln : Nat → Nat) : ∀ m, sumE ln 0 m = 0
  | 0 => rfl
  | m + 1 => by
    show sumE ln 0 m + 0 * _ = 0
    rw [sumE_zero ln m, Nat.zero_mul]
theorem sumE_step (ln : Nat → Nat) (e : Nat) : ∀ m, sumE ln (e + 1) m = sumE ln e m + shareOf ln m e
  | 0 => by
    unfold shareOf
    rw [if_neg (by omega)]; rfl
  | m + 1 => by
    show sumE ln (e + 1) m + cntL ln (m + 1) (e + 1) * 2 ^ (15 - (m + 1)) = sumE ln e m + cntL ln (m + 1) e * 2 ^ (15 - (m + 1)) + shareOf ln (m + 1) e
    rw [sumE_step ln e m]
    unfold shareOf
    by_cases h : ln e = m + 1
    · rw [cntL_yes h, Nat.add_mul, if_neg (by omega), if_pos (by omega), h]; omega
    · rw [cntL_no h]
      by_cases h2 : 1 ≤ ln e ∧ ln e ≤ m
      · rw [if_pos h2, if_pos (by omega)]; omega
      · rw [if_neg h2, if_neg (by omega)]; omega
theorem sumE_list (ln : Nat → Nat) (m : Nat) : ∀ e, sumE ln e m = ((List.range e).map (shareOf ln m)).sum
  | 0 => sumE_zero ln m
  | e + 1 => by
    rw [sumE_step, sumE_list ln m e, List.range_succ, List.map_append, List.sum_append]
    simp
theorem sum_filter (g : Nat → Nat) (p : Nat → Bool) : ∀ l : List Nat, (∀ s ∈ l, p s = false → g s = 0) → (l.map g).sum = ((l.filter p).map g).sum
  | [], _ => rfl
  | x :: l, h => by
    have ih := sum_filter g p l (fun s hs => h s (List.mem_cons_of_mem _ hs))
    cases hp : p x with
    | true => rw [List.filter_cons_of_pos hp, List.map_cons, List.map_cons, List.sum_cons, List.sum_cons, ih]
    | false =>
      rw [List.filter_cons_of_neg (by rw [hp]; simp), List.map_cons, List.sum_cons, ih, h x (List.mem_cons_self ..) hp, Nat.zero_add]
theorem used_fst (ys : List Nat) (i : Nat) : (used ys i).map (·.1) = (List.range i).filter (fun j => decide (0 < ys.count j)) := by
  unfold used
  rw [List.map_map]
  exact List.map_id _
theorem cntB_none {us : List (Nat × Nat)} {j : Nat} (h : j ∉ us.map (·.1)) : ∀ r, cntB j (level us r) = 0
  | 0 => by simp [level, cntB]
  | r + 1 => by
    have h1 := cntB_none h r
    have h2 := cntB_pairs j (level us r)
    have h3 : cntB j (leaves us) = 0 := by
      unfold cntB
      rw [leaves_flat]
      exact List.count_eq_zero.2 h
    show cntB j (sortB (pairs (level us r) ++ leaves us)) = 0
    rw [cntB_perm j (sortB_perm _), cntB_app]
    omega
theorem lens_none {us : List (Nat × Nat)} {j : Nat} (h : j ∉ us.map (·.1)) : lensOf us j = 0 := by
  unfold lensOf
  split
  · rename_i h1
    match us, h1, h with
    | [u], _, h =>
      have : ¬ u.1 = j := fun e => h (by simp [e])
      simp [this]
  · have h1 := cntB_none h 15
    have h2 : cntB j ((level us 15).take (2 * us.length - 2)) + cntB j ((level us 15).drop (2 * us.length - 2)) = cntB j (level us 15) := by
      rw [← cntB_app, List.take_append_drop]
    show cntB j ((level us 15).take (2 * us.length - 2)) = 0
    omega
/-- The codes of the lengths are permitted. -/
theorem kraft_sum (ys : List Nat) : sumTo (lensOf (used ys 272)) 15 ≤ 32768 := by
  have hf := used_fst ys 272
  have hn := used_nodup ys 272
  have hl := used_length ys 272
  have hm : ∀ s ∈ List.range 272, decide (0 < ys.count s) = false → shareOf (lensOf (used ys 272)) 15 s = 0 := fun s hs hp => by
    have hnot : s ∉ (used ys 272).map (·.1) := by
      rw [hf]
      intro h
      have := (List.mem_filter.1 h).2
      rw [hp] at this
      cases this
    unfold shareOf
    rw [lens_none hnot, if_neg (by omega)]
  rw [← sumE_all, sumE_list, sum_filter _ _ _ hm, ← hf]
  generalize used ys 272 = us at hn hl
  by_cases h1 : 2 ≤ us.length
  · refine Nat.le_trans (sum_le _ fun s _ => ?_) (kraft hn h1 (by omega))
    unfold shareOf
    split
    · exact Nat.le_refl _
    · exact Nat.zero_le _
  · have hs : ∀ s, shareOf (lensOf us) 15 s ≤ 32768 := fun s => by
      unfold shareOf
      split
      · exact Nat.pow_le_pow_right (show 0 < 2 by decide) (show 15 - lensOf us s ≤ 15 by omega)
      · exact Nat.zero_le _
    cases us with
    | nil => exact Nat.zero_le _
    | cons u t =>
      cases t with
      | nil =>
        show shareOf _ 15 u.1 + 0 ≤ 32768
        exact hs u.1
      | cons v t => exact absurd (show 2 ≤ (u :: v :: t).length by simp) h1
end Go.Proofs.YtefhcgnamfnkbaaDoor.Sb
