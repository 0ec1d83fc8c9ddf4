/- A row of bundles, sorted: what it holds then. -/
import Derived.Test.YtefhcgnamfnkbaaDoorSbg
namespace Go.Proofs.YtefhcgnamfnkbaaDoor.Sb
theorem seg_map {α β : Type} (φ : α → β) (f : Nat → α) : ∀ (k a : Nat), seg (fun i => φ (f i)) a k = (seg f a k).map φ
  | 0, _ => rfl
  | k + 1, a => by simp only [seg, List.map_cons, seg_map φ f k (a + 1)]
end Go.Proofs.YtefhcgnamfnkbaaDoor.Sb
namespace Go.Proofs.YtefhcgnamfnkbaaDoor.Pr
open Go.RowKit Go.Proofs.YtefhcgnamfnkbaaDoorW.PrintWords Go.Proofs.YtefhcgnamfnkbaaDoorW.PrintLast Go.Proofs.YtefhcgnamfnkbaaDoorW.PrintMore
open Go.Proofs.YtefhcgnamfnkbaaDoor.Sb
set_option linter.unusedVariables false
set_option linter.unusedSimpArgs false
variable {w w' : World}
/-- What a sorted row holds, said of the list. -/
theorem sorted_list {bs : List (Nat × List Nat)} {f f' : Nat → El} (hf : ∀ i b, bs[i]? = some b → (f i).idx = i ∧ (f i).key = (b.1 : Int)) (P : Pm 0 bs.length f f') (S : Srt El.rk f' 0 bs.length) :
    ∀ i b, (sortB bs)[i]? = some b → ∃ j, bs[j]? = some b ∧ f' i = f j := by
  have hb : ∀ j, j < bs.length → ∃ b, bs[j]? = some b := fun j hj => ⟨_, List.getElem?_eq_getElem hj⟩
  have hr : ∀ p, p < bs.length → rkB (bs.getD (f' p).idx (0, []), (f' p).idx) = (f' p).rk := fun p hp => by
    obtain ⟨j, _, hj, e⟩ := P.back (Nat.zero_le p) hp
    obtain ⟨b, ej⟩ := hb j hj
    obtain ⟨e1, e2⟩ := hf j b ej
    rw [e, e1, List.getD_eq_getElem?_getD, ej]
    show (b.1 : Int) * 1048576 + (j : Int) = (f j).key * 1048576 + ((f j).idx : Int)
    rw [e1, e2]
  have h1 : seg (fun i => ((bs.getD (f i).idx (0, []), (f i).idx) : (Nat × List Nat) × Nat)) 0 bs.length = bs.zipIdx := by
    refine List.ext_getElem? fun i => ?_
    by_cases hi : i < bs.length
    · obtain ⟨b, ei⟩ := hb i hi
      obtain ⟨e1, _⟩ := hf i b ei
      rw [seg_at _ _ _ hi, List.getElem?_zipIdx, ei, Nat.zero_add]
      simp only [e1, List.getD_eq_getElem?_getD, ei, Option.getD_some, Option.map_some, Nat.zero_add]
    · rw [List.getElem?_eq_none (by rw [seg_length]; omega), List.getElem?_eq_none (by rw [List.length_zipIdx]; omega)]
  have h2 : seg (fun i => ((bs.getD (f' i).idx (0, []), (f' i).idx) : (Nat × List Nat) × Nat)) 0 bs.length = sortL rkB bs.zipIdx := by
    refine eq_of_sorted (rk := rkB) _ _ ?_ (seg_pairwise _ 0 fun p q h1 h2 h3 => ?_) (sortL_sorted rkB _)
    · refine List.Perm.trans ?_ (sortL_perm rkB _).symm
      rw [← h1, seg_map (fun e : El => ((bs.getD e.idx (0, []), e.idx) : (Nat × List Nat) × Nat)) f', seg_map (fun e : El => ((bs.getD e.idx (0, []), e.idx) : (Nat × List Nat) × Nat)) f]
      have := P.perm
      rw [Nat.sub_zero] at this
      exact this.map _
    · show rkB (bs.getD (f' p).idx (0, []), (f' p).idx) < rkB (bs.getD (f' q).idx (0, []), (f' q).idx)
      rw [hr p (by omega), hr q (by omega)]
      exact S p q h1 h2 (by omega)
  intro i b hi
  have hil : i < bs.length := by
    have := (List.getElem?_eq_some_iff.1 hi).1
    rwa [sortB_length] at this
  unfold sortB at hi
  rw [← h2, List.getElem?_map, seg_at _ _ _ hil, Nat.zero_add] at hi
  obtain ⟨j, _, hj, e⟩ := P.back (Nat.zero_le i) hil
  obtain ⟨b', ej⟩ := hb j hj
  obtain ⟨e1, _⟩ := hf j b' ej
  refine ⟨j, ?_, e⟩
  simp only [Option.map_some, Option.some.injEq, e, e1, List.getD_eq_getElem?_getD, ej, Option.getD_some] at hi
  rw [ej, hi]
set_option maxRecDepth 100000 in
theorem sort_x {B N cap M : Nat} {A : Option Addr} {bs : List (Nat × List Nat)} (w : World) (h : Lx w B N A cap M bs) (h0 : 0 < bs.length) (hn : bs.length ≤ 1000000) (hM : M ≤ 1000000000) :
    Calls Tryd.prog 74 #[.slice A bs.length cap, .func (.func 75) #[] #[]] w fun r w' => r = .returned (.tuple #[]) ∧ ∃ g cs, A = some ⟨g, 0, none⟩ ∧ B ≤ g ∧ w.heap[g]? = some (.cells cs 137 (0, 0)) ∧ Ap w.heap.size g w w' ∧ Rx w' N A M (sortB bs) := by
  obtain ⟨xs, ho, hx⟩ := h
  have hl : xs.length = bs.length * 2 := ho.1
  rcases ho.2 with ⟨_, e⟩ | ⟨g, cap', cur, hv, hB, hh, hnc, _, hcs, htk⟩
  · omega
  simp only [Value.slice.injEq] at hv
  obtain ⟨rfl, _, rfl⟩ := hv
  have hg : ∀ j, j < bs.length * 2 → cur[j]? = xs[j]? := fun j hj => by
    rw [← htk, List.getElem?_take, if_pos hj, Array.getElem?_toList]
  have hc : ∀ i, ∃ e : El, ∀ b, bs[i]? = some b → (e.idx = i ∧ e.key = (b.1 : Int)) ∧ cur[2 * i]? = some (.int .i64 e.key) ∧ cur[2 * i + 1]? = some (.slice e.A e.l e.c) ∧ Sx w N e.A e.l e.c b.2 ∧ e.l ≤ M ∧ b.1 ≤ 1000000 * M := fun i => by
    cases hb : bs[i]? with
    | none => exact ⟨⟨0, 0, none, 0, 0⟩, fun b h => by cases h⟩
    | some b0 =>
      have hi := (List.getElem?_eq_some_iff.1 hb).1
      obtain ⟨A', l, c, e1, e2, e3, e4, e5⟩ := hx i b0 hb
      refine ⟨⟨(b0.1 : Int), i, A', l, c⟩, fun b hbb => ?_⟩
      obtain rfl : b0 = b := Option.some.inj hbb
      exact ⟨⟨rfl, rfl⟩, by rw [hg _ (by omega), Nat.mul_comm]; exact e1, by rw [hg _ (by omega), Nat.mul_comm]; exact e2, e3, e4, e5⟩
  obtain ⟨f, hf⟩ := Classical.skolem.1 hc
  have hb : ∀ j, j < bs.length → ∃ b, bs[j]? = some b := fun j hj => ⟨_, List.getElem?_eq_getElem hj⟩
  have hbx : Bx w g bs.length f := ⟨cur, hh, by omega, fun i hi => by
    obtain ⟨b, e⟩ := hb i hi
    obtain ⟨_, e1, e2, _⟩ := hf i b e
    exact ⟨e1, e2⟩⟩
  have hok : ∀ i, i < bs.length → (f i).ok := fun i hi => by
    obtain ⟨b, e⟩ := hb i hi
    obtain ⟨⟨e1, e2⟩, _, _, _, _, e3⟩ := hf i b e
    refine ⟨by omega, ?_, by omega⟩
    have : 1000000 * M ≤ 1000000 * 1000000000 := Nat.mul_le_mul_left _ hM
    omega
  refine (sortStable_x cap f w hbx hok (fun p hp => by obtain ⟨b, e⟩ := hb p hp; exact (hf p b e).1.1) hn).mono ?_
  rintro _ w' ⟨rfl, ⟨f', hb', P, S⟩, hA⟩
  refine ⟨rfl, g, cur, rfl, hB, hh, hA, ?_⟩
  obtain ⟨cs', k1, k2, k3⟩ := hb'
  refine .inr ⟨g, cs', rfl, k1, by rw [sortB_length]; exact k2, fun i b hi => ?_⟩
  have hil : i < bs.length := by
    have := (List.getElem?_eq_some_iff.1 hi).1
    rwa [sortB_length] at this
  obtain ⟨j, ej, e⟩ := sorted_list (fun i b hi => (hf i b hi).1) P S i b hi
  obtain ⟨⟨e1, e2⟩, _, _, e3, e4, e5⟩ := hf j b ej
  obtain ⟨q1, q2⟩ := k3 i hil
  rw [e] at q1 q2
  rw [e2] at q1
  exact ⟨_, _, _, q1, q2, e3.t3 (T3.ap hA hh), e4, e5⟩
end Go.Proofs.YtefhcgnamfnkbaaDoor.Pr
