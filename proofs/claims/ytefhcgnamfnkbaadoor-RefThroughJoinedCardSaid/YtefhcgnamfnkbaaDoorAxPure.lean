/- Changes as partial maps of rows: the plain law of axis. -/
import Derived.Test.YtefhcgnamfnkbaaDoorJoin
namespace Go.Proofs.YtefhcgnamfnkbaaDoor.Pr
open Go.RowKit Go.Proofs.YtefhcgnamfnkbaaDoorW.PrintWords Go.Proofs.YtefhcgnamfnkbaaDoorW.PrintLast Go.Proofs.YtefhcgnamfnkbaaDoorW.PrintMore

/-- Where a row goes. -/
def img : List S127 → Int → Option Int
  | [], x => some x
  | s :: r, x => if s.f0 = 1 then (img r x).map (· + s.f1) else if s.f0 = 0 then (if x < s.f1 then some x else (img r (x - s.f1)).map (· + s.f1)) else (if x < s.f1 then none else img r (x - s.f1))
def bef : List S127 → Int
  | [] => 0
  | s :: r => (if s.f0 = 1 then 0 else s.f1) + bef r
def aft : List S127 → Int
  | [] => 0
  | s :: r => (if s.f0 = 2 then 0 else s.f1) + aft r
def Vd (l : List S127) : Prop := ∀ s ∈ l, (s.f0 = 0 ∨ s.f0 = 1 ∨ s.f0 = 2) ∧ 1 ≤ s.f1
theorem Vd.tail {s : S127} {r : List S127} (h : Vd (s :: r)) : Vd r := fun t ht => h t (List.mem_cons_of_mem _ ht)
theorem Vd.head {s : S127} {r : List S127} (h : Vd (s :: r)) : (s.f0 = 0 ∨ s.f0 = 1 ∨ s.f0 = 2) ∧ 1 ≤ s.f1 := h s List.mem_cons_self
theorem Vd.app {l m : List S127} (h : Vd l) (k : Vd m) : Vd (l ++ m) := fun t ht => by
  rcases List.mem_append.1 ht with h1 | h1
  · exact h t h1
  · exact k t h1
theorem bef_nn : ∀ {l : List S127}, Vd l → 0 ≤ bef l
  | [], _ => Int.le_refl 0
  | s :: r, h => by have h1 := bef_nn h.tail; have h2 := h.head; simp only [bef]; split <;> omega
theorem aft_nn : ∀ {l : List S127}, Vd l → 0 ≤ aft l
  | [], _ => Int.le_refl 0
  | s :: r, h => by have h1 := aft_nn h.tail; have h2 := h.head; simp only [aft]; split <;> omega
theorem bef_app : ∀ l m : List S127, bef (l ++ m) = bef l + bef m
  | [], m => by simp [bef]
  | s :: r, m => by simp only [List.cons_append, bef, bef_app r m]; omega
theorem aft_app : ∀ l m : List S127, aft (l ++ m) = aft l + aft m
  | [], m => by simp [aft]
  | s :: r, m => by simp only [List.cons_append, aft, aft_app r m]; omega
theorem map_map' (o : Option Int) (a b : Int) : (o.map (· + a)).map (· + b) = o.map (· + (a + b)) := by cases o <;> simp; omega
theorem img_app : ∀ (l : List S127) (m : List S127) (x : Int), Vd l → 0 ≤ x → img (l ++ m) x = if x < bef l then img l x else (img m (x - bef l)).map (· + aft l)
  | [], m, x, _, hx => by simp [bef, aft, img]; intro h; omega
  | s :: r, m, x, h, hx => by
    have h1 := bef_nn h.tail
    obtain ⟨hk, hn⟩ := h.head
    simp only [List.cons_append, img, bef, aft]
    rcases hk with hk | hk | hk
    · simp only [hk]
      by_cases hlt : x < s.f1
      · simp [hlt, show x < s.f1 + bef r from by omega]
      · have ih := img_app r m (x - s.f1) h.tail (by omega)
        simp only [hlt, ih, if_false, show ((0 : Int) = 1) = False from by simp, show ((0 : Int) = 2) = False from by simp, if_true]
        by_cases hb : x - s.f1 < bef r
        · simp [hb, show x < s.f1 + bef r from by omega]
        · simp only [hb, if_false, show ¬ x < s.f1 + bef r from by omega, map_map']
          rw [show x - s.f1 - bef r = x - (s.f1 + bef r) from by omega, Int.add_comm (aft r)]
    · have ih := img_app r m x h.tail hx
      simp only [hk, ih, if_true, show ((1 : Int) = 2) = False from by simp, if_false, Int.zero_add]
      by_cases hb : x < bef r
      · simp [hb]
      · simp only [hb, if_false, map_map', Int.add_comm (aft r)]
    · simp only [hk]
      by_cases hlt : x < s.f1
      · simp [hlt, show x < s.f1 + bef r from by omega]
      · have ih := img_app r m (x - s.f1) h.tail (by omega)
        simp only [hlt, ih, if_false, show ((2 : Int) = 1) = False from by simp, show ((2 : Int) = 0) = False from by simp, if_true]
        by_cases hb : x - s.f1 < bef r
        · simp [hb, show x < s.f1 + bef r from by omega]
        · simp only [hb, if_false, show ¬ x < s.f1 + bef r from by omega, Int.zero_add]
          rw [show x - s.f1 - bef r = x - (s.f1 + bef r) from by omega]
/-- The same change. -/
structure Same (l m : List S127) : Prop where
  b : bef l = bef m
  a : aft l = aft m
  i : ∀ x, 0 ≤ x → img l x = img m x
theorem Same.refl (l : List S127) : Same l l := ⟨rfl, rfl, fun _ _ => rfl⟩
theorem Same.trans {l m n : List S127} (h : Same l m) (k : Same m n) : Same l n := ⟨h.b.trans k.b, h.a.trans k.a, fun x hx => (h.i x hx).trans (k.i x hx)⟩
theorem Same.symm {l m : List S127} (h : Same l m) : Same m l := ⟨h.b.symm, h.a.symm, fun x hx => (h.i x hx).symm⟩
theorem Same.app {l m : List S127} (h : Same l m) (vl : Vd l) (vm : Vd m) (t : List S127) : Same (l ++ t) (m ++ t) := by
  refine ⟨by rw [bef_app, bef_app, h.b], by rw [aft_app, aft_app, h.a], fun x hx => ?_⟩
  rw [img_app l t x vl hx, img_app m t x vm hx, h.b, h.a, h.i x hx]
theorem Same.pre {l m : List S127} (h : Same l m) (t : List S127) (vt : Vd t) : Same (t ++ l) (t ++ m) := by
  refine ⟨by rw [bef_app, bef_app, h.b], by rw [aft_app, aft_app, h.a], fun x hx => ?_⟩
  rw [img_app t l x vt hx, img_app t m x vt hx]
  by_cases hb : x < bef t
  · simp [hb]
  · simp only [hb, if_false]; rw [h.i (x - bef t) (by omega)]
def step (k n : Int) : List S127 := [⟨k, n⟩]
theorem vd_step {k n : Int} (hk : k = 0 ∨ k = 1 ∨ k = 2) (hn : 1 ≤ n) : Vd (step k n) := fun s hs => by
  have : s = ⟨k, n⟩ := by simpa [step] using hs
  subst this
  exact ⟨hk, hn⟩
theorem vd_adds {k n : Int} (hk : k = 0 ∨ k = 1 ∨ k = 2) : Vd (adds k n) := by
  unfold adds
  split
  · exact vd_step hk (by omega)
  · intro s hs; cases hs
theorem same_two (k : Int) (hk : k = 0 ∨ k = 1 ∨ k = 2) (m n : Int) (_ : 1 ≤ m) (hn : 1 ≤ n) : Same (step k (m + n)) (step k m ++ step k n) := by
  rcases hk with rfl | rfl | rfl
  · refine ⟨by simp [step, bef], by simp [step, aft], fun x hx => ?_⟩
    by_cases h1 : x < m
    · simp [step, img, h1, show x < m + n from by omega]
    · by_cases h2 : x < m + n
      · simp [step, img, h1, h2, show x - m < n from by omega]
      · simp [step, img, h1, h2, show ¬ x - m < n from by omega]
  · refine ⟨by simp [step, bef], by simp [step, aft], fun x hx => ?_⟩
    simp [step, img]; omega
  · refine ⟨by simp [step, bef], by simp [step, aft], fun x hx => ?_⟩
    by_cases h1 : x < m
    · simp [step, img, h1, show x < m + n from by omega]
    · by_cases h2 : x < m + n
      · simp [step, img, h1, h2, show x - m < n from by omega]
      · simp [step, img, h1, h2, show ¬ x - m < n from by omega]; omega
theorem same_swap (m n : Int) : Same (step 1 n ++ step 2 m) (step 2 m ++ step 1 n) := by
  refine ⟨by simp [step, bef], by simp [step, aft], fun x hx => ?_⟩
  simp only [step, List.cons_append, List.nil_append, img]
  by_cases h1 : x < m <;> simp [h1]
end Go.Proofs.YtefhcgnamfnkbaaDoor.Pr
