/- Sorting by exchanges, in plain Lean: segments of a row, their permutations, ranks. -/
namespace Go.Proofs.YtefhcgnamfnkbaaDoor.Sb
variable {α : Type}
/-- k places of a row from a on. -/
def seg (f : Nat → α) : Nat → Nat → List α
  | _, 0 => []
  | a, k + 1 => f a :: seg f (a + 1) k
theorem seg_length (f : Nat → α) : ∀ (k a : Nat), (seg f a k).length = k
  | 0, _ => rfl
  | k + 1, a => by simp [seg, seg_length f k (a + 1)]
theorem seg_add (f : Nat → α) : ∀ (k l a : Nat), seg f a (k + l) = seg f a k ++ seg f (a + k) l
  | 0, l, a => by simp [seg]
  | k + 1, l, a => by
    rw [show k + 1 + l = (k + l) + 1 from by omega]
    show f a :: seg f (a + 1) (k + l) = f a :: (seg f (a + 1) k ++ seg f (a + (k + 1)) l)
    rw [seg_add f k l (a + 1), show a + 1 + k = a + (k + 1) from by omega]
theorem seg_shift {f g : Nat → α} : ∀ (k a b : Nat), (∀ i, i < k → f (a + i) = g (b + i)) → seg f a k = seg g b k
  | 0, _, _, _ => rfl
  | k + 1, a, b, h => by
    show f a :: seg f (a + 1) k = g b :: seg g (b + 1) k
    rw [show f a = g b from h 0 (by omega), seg_shift k (a + 1) (b + 1) (fun i hi => by rw [show a + 1 + i = a + (i + 1) from by omega, show b + 1 + i = b + (i + 1) from by omega]; exact h (i + 1) (by omega))]
theorem seg_mem {f : Nat → α} {x : α} : ∀ {k a : Nat}, x ∈ seg f a k → ∃ i, a ≤ i ∧ i < a + k ∧ x = f i
  | 0, _, h => by simp [seg] at h
  | k + 1, a, h => by
    rcases List.mem_cons.1 h with h | h
    · exact ⟨a, by omega, by omega, h⟩
    · obtain ⟨i, h1, h2, h3⟩ := seg_mem h
      exact ⟨i, by omega, by omega, h3⟩
theorem mem_seg {f : Nat → α} {i : Nat} : ∀ {k a : Nat}, a ≤ i → i < a + k → f i ∈ seg f a k
  | 0, _, h1, h2 => by omega
  | k + 1, a, h1, h2 => by
    rcases Nat.eq_or_lt_of_le h1 with h | h
    · subst h; exact List.mem_cons_self ..
    · exact List.mem_cons_of_mem _ (mem_seg (k := k) (a := a + 1) (by omega) (by omega))
theorem seg_at {f : Nat → α} : ∀ (k a i : Nat), i < k → (seg f a k)[i]? = some (f (a + i))
  | 0, _, _, h => by omega
  | k + 1, a, 0, h => rfl
  | k + 1, a, i + 1, h => by
    show (seg f (a + 1) k)[i]? = _
    rw [seg_at k (a + 1) i (by omega), show a + 1 + i = a + (i + 1) from by omega]
/-- The places from a to b were permuted, no other was touched. -/
structure Pm (a b : Nat) (f f' : Nat → α) : Prop where
  perm : (seg f' a (b - a)).Perm (seg f a (b - a))
  out : ∀ i, i < a ∨ b ≤ i → f' i = f i
variable {a b m A B : Nat} {f f' f'' : Nat → α}
theorem Pm.refl (a b : Nat) (f : Nat → α) : Pm a b f f := ⟨List.Perm.refl _, fun _ _ => rfl⟩
theorem Pm.trans (h : Pm a b f f') (k : Pm a b f' f'') : Pm a b f f'' := ⟨k.perm.trans h.perm, fun i hi => (k.out i hi).trans (h.out i hi)⟩
theorem Pm.widen (h : Pm a b f f') (h1 : A ≤ a) (h2 : a ≤ b) (h3 : b ≤ B) : Pm A B f f' := by
  refine ⟨?_, fun i hi => h.out i (by omega)⟩
  rw [show B - A = (a - A) + ((b - a) + (B - b)) from by omega, seg_add, seg_add, seg_add, seg_add, show A + (a - A) = a from by omega, show a + (b - a) = b from by omega,
    seg_shift (f := f') (g := f) (a - A) A A (fun i hi => h.out _ (by omega)), seg_shift (f := f') (g := f) (B - b) b b (fun i hi => h.out _ (by omega))]
  exact (List.Perm.refl _).append (h.perm.append (List.Perm.refl _))
theorem Pm.back (h : Pm a b f f') {i : Nat} (h1 : a ≤ i) (h2 : i < b) : ∃ j, a ≤ j ∧ j < b ∧ f' i = f j := by
  obtain ⟨j, h3, h4, h5⟩ := seg_mem (h.perm.mem_iff.1 (mem_seg (f := f') (k := b - a) (a := a) h1 (by omega)))
  exact ⟨j, h3, by omega, h5⟩
/-- Two neighbouring parts have changed places. -/
structure Rot (a m b : Nat) (f f' : Nat → α) : Prop where
  lo : ∀ i, a ≤ i → i + m < a + b → f' i = f (i + m - a)
  hi : ∀ i, a + b ≤ i + m → i < b → f' i = f (i + m - b)
  out : ∀ i, i < a ∨ b ≤ i → f' i = f i
theorem Rot.pm (h : Rot a m b f f') (h1 : a ≤ m) (h2 : m ≤ b) : Pm a b f f' := by
  refine ⟨?_, h.out⟩
  have e1 : seg f' a (b - a) = seg f m (b - m) ++ seg f a (m - a) := by
    have s1 : seg f' a (b - m) = seg f m (b - m) := seg_shift (b - m) a m (fun i hi => by rw [h.lo _ (by omega) (by omega)]; congr 1; omega)
    have s2 : seg f' (a + (b - m)) (m - a) = seg f a (m - a) := seg_shift (m - a) (a + (b - m)) a (fun i hi => by rw [h.hi _ (by omega) (by omega)]; congr 1; omega)
    rw [show b - a = (b - m) + (m - a) from by omega, seg_add, s1, s2]
  have e2 : seg f a (b - a) = seg f a (m - a) ++ seg f m (b - m) := by
    rw [show b - a = (m - a) + (b - m) from by omega, seg_add, show a + (m - a) = m from by omega]
  rw [e1, e2]
  exact List.perm_append_comm
/-- Strictly growing ranks from a to b. -/
def Srt (rk : α → Int) (f : Nat → α) (a b : Nat) : Prop := ∀ i j, a ≤ i → i < j → j < b → rk (f i) < rk (f j)
theorem Srt.sub {rk : α → Int} (h : Srt rk f a b) (h1 : a ≤ A) (h2 : B ≤ b) : Srt rk f A B := fun i j h3 h4 h5 => h i j (by omega) h4 (by omega)
theorem Srt.same {rk : α → Int} (h : Srt rk f a b) (e : ∀ i, a ≤ i → i < b → f' i = f i) : Srt rk f' a b := fun i j h3 h4 h5 => by
  rw [e i h3 (by omega), e j (by omega) h5]; exact h i j h3 h4 h5
/-- Two sorted parts, the first below the second. -/
theorem Srt.join {rk : α → Int} (h : Srt rk f a m) (k : Srt rk f m b) (hx : ∀ i j, a ≤ i → i < m → m ≤ j → j < b → rk (f i) < rk (f j)) : Srt rk f a b := fun i j h3 h4 h5 => by
  rcases Nat.lt_or_ge j m with h6 | h6
  · exact h i j h3 h4 h6
  · rcases Nat.lt_or_ge i m with h7 | h7
    · exact hx i j h3 h7 h6 h5
    · exact k i j h7 h4 h5
theorem seg_pairwise {rk : α → Int} : ∀ (k a : Nat), Srt rk f a (a + k) → (seg f a k).Pairwise (fun x y => rk x < rk y)
  | 0, _, _ => List.Pairwise.nil
  | k + 1, a, h => by
    refine List.Pairwise.cons (fun x hx => ?_) (seg_pairwise k (a + 1) (fun i j h3 h4 h5 => h i j (by omega) h4 (by omega)))
    obtain ⟨i, h1, h2, rfl⟩ := seg_mem hx
    exact h a i (Nat.le_refl _) (by omega) (by omega)
theorem eq_of_sorted {rk : α → Int} : ∀ (l1 l2 : List α), l1.Perm l2 → l1.Pairwise (fun x y => rk x < rk y) → l2.Pairwise (fun x y => rk x ≤ rk y) → l1 = l2
  | [], l2, h, _, _ => by rw [List.nil_perm.1 h]
  | x :: l1, [], h, _, _ => by have := h.length_eq; simp at this
  | x :: l1, y :: l2, h, h1, h2 => by
    have hxy : x = y := by
      have hy : y ∈ x :: l1 := h.mem_iff.2 (List.mem_cons_self ..)
      have hx : x ∈ y :: l2 := h.mem_iff.1 (List.mem_cons_self ..)
      rcases List.mem_cons.1 hy with e | hy
      · exact e.symm
      · rcases List.mem_cons.1 hx with e | hx
        · exact e
        · have a1 := (List.pairwise_cons.1 h1).1 y hy
          have a2 := (List.pairwise_cons.1 h2).1 x hx
          omega
    subst hxy
    rw [eq_of_sorted l1 l2 ((List.perm_cons x).1 h) (List.pairwise_cons.1 h1).2 (List.pairwise_cons.1 h2).2]
/-- The sorted list. -/
def sortL (rk : α → Int) (l : List α) : List α := l.mergeSort (fun x y => decide (rk x ≤ rk y))
theorem sortL_perm (rk : α → Int) (l : List α) : (sortL rk l).Perm l := List.mergeSort_perm _ _
theorem sortL_sorted (rk : α → Int) (l : List α) : (sortL rk l).Pairwise (fun x y => rk x ≤ rk y) := by
  have h := List.pairwise_mergeSort (le := fun x y => decide (rk x ≤ rk y)) (fun x y z h1 h2 => by simp at h1 h2 ⊢; omega) (fun x y => by simp; omega) l
  exact h.imp (fun h => by simpa using h)
theorem sorted_is {rk : α → Int} {n : Nat} (h : Pm 0 n f f') (k : Srt rk f' 0 n) : seg f' 0 n = sortL rk (seg f 0 n) := by
  refine eq_of_sorted _ _ (h.perm.trans (sortL_perm rk _).symm) (seg_pairwise n 0 (by rw [Nat.zero_add]; exact k)) (sortL_sorted rk _)
/-- One place is written. -/
def upd (f : Nat → α) (i : Nat) (x : α) : Nat → α := fun j => if j = i then x else f j
theorem upd_same (f : Nat → α) (i : Nat) (x : α) : upd f i x i = x := if_pos rfl
theorem upd_other (f : Nat → α) {i j : Nat} (x : α) (h : j ≠ i) : upd f i x j = f j := if_neg h
theorem upd_swap (f : Nat → α) {i j : Nat} (x y : α) (h : i ≠ j) : upd (upd f i x) j y = upd (upd f j y) i x := by
  funext k
  unfold upd
  by_cases h1 : k = i
  · have h2 : k ≠ j := by omega
    simp [h1, h]
  · by_cases h2 : k = j <;> simp [h1, h2]
    exact fun e => absurd e.symm h
/-- m places from a on and m from b on have changed places. -/
structure Swp (a b m : Nat) (f f' : Nat → α) : Prop where
  lo : ∀ i, i < m → f' (a + i) = f (b + i)
  hi : ∀ i, i < m → f' (b + i) = f (a + i)
  out : ∀ j, j < a ∨ a + m ≤ j → j < b ∨ b + m ≤ j → f' j = f j
theorem Swp.zero (a b : Nat) (f : Nat → α) : Swp a b 0 f f := ⟨fun i h => by omega, fun i h => by omega, fun _ _ _ => rfl⟩
theorem Swp.step {i : Nat} (h : Swp a b i f f') (hd : a + i < b) : Swp a b (i + 1) f (upd (upd f' (a + i) (f' (b + i))) (b + i) (f' (a + i))) := by
  have e1 : f' (a + i) = f (a + i) := h.out _ (by omega) (by omega)
  have e2 : f' (b + i) = f (b + i) := h.out _ (by omega) (by omega)
  refine ⟨fun k hk => ?_, fun k hk => ?_, fun j h1 h2 => ?_⟩
  · rw [upd_other _ _ (by omega)]
    by_cases hki : k = i
    · subst hki; rw [upd_same, e2]
    · rw [upd_other _ _ (by omega), h.lo k (by omega)]
  · by_cases hki : k = i
    · subst hki; rw [upd_same, e1]
    · rw [upd_other _ _ (by omega), upd_other _ _ (by omega), h.hi k (by omega)]
  · rw [upd_other _ _ (by omega), upd_other _ _ (by omega), h.out j (by omega) (by omega)]
/-- Where the rotation stands: s + i and s + i + j are the parts that are left. -/
structure Rin (a b s i j : Nat) (T f : Nat → α) : Prop where
  lo : ∀ k, a ≤ k → k < s → f k = T k
  hi : ∀ k, s + i + j ≤ k → k < b → f k = T k
  one : ∀ k, k < j → T (s + k) = f (s + i + k)
  two : ∀ k, k < i → T (s + j + k) = f (s + k)
theorem Rin.more {s i j : Nat} {T : Nat → α} (h : Rin a b s i j T f) (k : Swp s (s + i) j f f') (hij : j < i) : Rin a b (s + j) (i - j) j T f' := by
  refine ⟨fun r h1 h2 => ?_, fun r h1 h2 => ?_, fun r h1 => ?_, fun r h1 => ?_⟩
  · by_cases h3 : r < s
    · rw [k.out r (by omega) (by omega), h.lo r h1 h3]
    · obtain ⟨x, rfl⟩ : ∃ x, r = s + x := ⟨r - s, by omega⟩
      rw [k.lo x (by omega), h.one x (by omega)]
  · rw [k.out r (by omega) (by omega), h.hi r (by omega) h2]
  · rw [show s + j + (i - j) + r = s + i + r from by omega, k.hi r h1, h.two r (by omega)]
  · rw [k.out (s + j + r) (by omega) (by omega), show s + j + j + r = s + j + (j + r) from by omega, h.two (j + r) (by omega)]
    congr 1; omega
theorem Rin.less {s i j : Nat} {T : Nat → α} (h : Rin a b s i j T f) (k : Swp s (s + j) i f f') (hij : i < j) : Rin a b s i (j - i) T f' := by
  refine ⟨fun r h1 h2 => ?_, fun r h1 h2 => ?_, fun r h1 => ?_, fun r h1 => ?_⟩
  · rw [k.out r (by omega) (by omega), h.lo r h1 h2]
  · by_cases h3 : s + i + j ≤ r
    · rw [k.out r (by omega) (by omega), h.hi r h3 h2]
    · obtain ⟨x, rfl⟩ : ∃ x, r = s + j + x := ⟨r - (s + j), by omega⟩
      rw [k.hi x (by omega), h.two x (by omega)]
  · rw [k.out _ (by omega) (by omega), h.one r (by omega)]
  · rw [k.lo r h1, show s + (j - i) + r = s + (j - i + r) from by omega, h.one _ (by omega)]
    congr 1; omega
theorem Rin.last {s i : Nat} {T : Nat → α} (h : Rin a b s i i T f) (k : Swp s (s + i) i f f') (r : Nat) (h1 : a ≤ r) (h2 : r < b) : f' r = T r := by
  by_cases h3 : r < s
  · rw [k.out r (by omega) (by omega), h.lo r h1 h3]
  · by_cases h4 : r < s + i
    · obtain ⟨x, rfl⟩ : ∃ x, r = s + x := ⟨r - s, by omega⟩
      rw [k.lo x (by omega), h.one x (by omega)]
    · by_cases h5 : r < s + i + i
      · obtain ⟨x, rfl⟩ : ∃ x, r = s + i + x := ⟨r - (s + i), by omega⟩
        rw [k.hi x (by omega), h.two x (by omega)]
      · rw [k.out r (by omega) (by omega), h.hi r (by omega) h2]
theorem Rin.start (h1 : a ≤ m) (h2 : m ≤ b) (f : Nat → α) : Rin a b a (m - a) (b - m) (fun k => if k + m < a + b then f (k + m - a) else f (k + m - b)) f := by
  refine ⟨fun r h3 h4 => by omega, fun r h3 h4 => by omega, fun r h3 => ?_, fun r h3 => ?_⟩
  · show (if a + r + m < a + b then f (a + r + m - a) else f (a + r + m - b)) = _
    rw [if_pos (by omega)]; congr 1; omega
  · show (if a + (b - m) + r + m < a + b then f (a + (b - m) + r + m - a) else f (a + (b - m) + r + m - b)) = _
    rw [if_neg (by omega)]; congr 1; omega
theorem Rot.of (h : ∀ k, a ≤ k → k < b → f' k = (if k + m < a + b then f (k + m - a) else f (k + m - b))) (ho : ∀ i, i < a ∨ b ≤ i → f' i = f i) (h1 : a ≤ m) (h2 : m ≤ b) : Rot a m b f f' :=
  ⟨fun i h3 h4 => by rw [h i h3 (by omega), if_pos h4], fun i h3 h4 => by rw [h i (by omega) h4, if_neg (by omega)], ho⟩
end Go.Proofs.YtefhcgnamfnkbaaDoor.Sb
