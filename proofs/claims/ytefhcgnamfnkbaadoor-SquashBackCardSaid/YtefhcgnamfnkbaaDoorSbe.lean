/- slices.symMergeCmpFunc at squash.bundle, exactly. -/
import Derived.Test.YtefhcgnamfnkbaaDoorSbd
namespace Go.Proofs.YtefhcgnamfnkbaaDoor.Pr
open Go.RowKit Go.Proofs.YtefhcgnamfnkbaaDoorW.PrintWords Go.Proofs.YtefhcgnamfnkbaaDoorW.PrintLast Go.Proofs.YtefhcgnamfnkbaaDoorW.PrintMore
open Go.Proofs.YtefhcgnamfnkbaaDoor.Sb
set_option linter.unusedVariables false
set_option linter.unusedSimpArgs false
variable {w w' : World} {g n : Nat} {f f2 f3 f4 : Nat → El} {a b m mid i ee : Nat}
/-- The parts' ends are found: what comes to the left is below what comes to the right. -/
structure Sg (f : Nat → El) (a m b mid i ee : Nat) : Prop where
  ai : a ≤ i
  im : i ≤ m
  imd : i ≤ mid
  me : m ≤ ee
  eb : ee ≤ b
  sum : mid + m = ee + i
  s1 : Srt El.rk f a m
  s2 : Srt El.rk f m b
  x1 : i = a ∨ ee = b ∨ (f (i - 1)).rk < (f ee).rk
  x2 : ee = m ∨ i = m ∨ (f (ee - 1)).rk < (f i).rk
  hx : ∀ p q, a ≤ p → p < m → m ≤ q → q < b → (f p).idx < (f q).idx
theorem rot_trivial (f : Nat → El) (h : ¬ (i < m ∧ m < ee)) (h1 : i ≤ m) (h2 : m ≤ ee) : Rot i m ee f f := by
  refine ⟨fun r h3 h4 => ?_, fun r h3 h4 => ?_, fun _ _ => rfl⟩
  · congr 1; omega
  · congr 1; omega
theorem Sg.lo (h : Sg f a m b mid i ee) (R : Rot i m ee f f2) : (∀ r, r < i → f2 r = f r) ∧ (∀ r, i ≤ r → r < mid → f2 r = f (r + m - i)) ∧ (∀ r, mid ≤ r → r < ee → f2 r = f (r + m - ee)) ∧ ∀ r, ee ≤ r → f2 r = f r := by
  have := h.sum
  exact ⟨fun r h1 => R.out r (by omega), fun r h1 h2 => R.lo r h1 (by omega), fun r h1 h2 => R.hi r (by omega) h2, fun r h1 => R.out r (by omega)⟩
theorem Sg.one (h : Sg f a m b mid i ee) (R : Rot i m ee f f2) : Srt El.rk f2 a i ∧ Srt El.rk f2 i mid ∧ ∀ p q, a ≤ p → p < i → i ≤ q → q < mid → (f2 p).idx < (f2 q).idx := by
  obtain ⟨e1, e2, e3, e4⟩ := h.lo R
  have := h.sum
  have := h.im
  have := h.eb
  refine ⟨fun p q h1 h2 h3 => ?_, fun p q h1 h2 h3 => ?_, fun p q h1 h2 h3 h4 => ?_⟩
  · rw [e1 p (by omega), e1 q h3]; exact h.s1 p q h1 h2 (by omega)
  · rw [e2 p h1 (by omega), e2 q (by omega) h3]; exact h.s2 _ _ (by omega) (by omega) (by omega)
  · rw [e1 p h2, e2 q h3 h4]; exact h.hx _ _ h1 (by omega) (by omega) (by omega)
theorem Sg.triv1 (h : Sg f a m b mid i ee) (R : Rot i m ee f f2) (hn : ¬ (a < i ∧ i < mid)) : Srt El.rk f2 a mid := by
  obtain ⟨h1, h2, _⟩ := h.one R
  have := h.ai
  have := h.imd
  by_cases e : i = a
  · rw [← e]; exact h2
  · rw [show mid = i from by omega]; exact h1
theorem Sg.two (h : Sg f a m b mid i ee) (R : Rot i m ee f f2) (P : Pm a mid f2 f3) : Srt El.rk f3 mid ee ∧ Srt El.rk f3 ee b ∧ ∀ p q, mid ≤ p → p < ee → ee ≤ q → q < b → (f3 p).idx < (f3 q).idx := by
  obtain ⟨e1, e2, e3, e4⟩ := h.lo R
  have := h.sum
  have := h.ai
  have := h.im
  have := h.imd
  have := h.me
  have o : ∀ r, mid ≤ r → f3 r = f2 r := fun r hr => P.out r (by omega)
  refine ⟨fun p q h1 h2 h3 => ?_, fun p q h1 h2 h3 => ?_, fun p q h1 h2 h3 h4 => ?_⟩
  · rw [o p h1, o q (by omega), e3 p h1 (by omega), e3 q (by omega) h3]; exact h.s1 _ _ (by omega) (by omega) (by omega)
  · rw [o p (by omega), o q (by omega), e4 p h1, e4 q (by omega)]; exact h.s2 _ _ (by omega) h2 h3
  · rw [o p h1, o q (by omega), e3 p h1 h2, e4 q h3]; exact h.hx _ _ (by omega) (by omega) (by omega) h4
theorem Sg.triv2 (h : Sg f a m b mid i ee) (R : Rot i m ee f f2) (P : Pm a mid f2 f3) (hn : ¬ (mid < ee ∧ ee < b)) : Srt El.rk f3 mid b := by
  obtain ⟨h1, h2, _⟩ := h.two R P
  have := h.eb
  have := h.sum
  have := h.im
  by_cases e : ee = b
  · rw [← e]; exact h1
  · rw [show mid = ee from by omega]; exact h2
theorem Sg.fin (h : Sg f a m b mid i ee) (R : Rot i m ee f f2) (P : Pm a mid f2 f3) (S : Srt El.rk f3 a mid) (P2 : Pm mid b f3 f4) (S2 : Srt El.rk f4 mid b) : Pm a b f f4 ∧ Srt El.rk f4 a b := by
  obtain ⟨e1, e2, e3, e4⟩ := h.lo R
  have q1 := h.sum
  have q2 := h.ai
  have q3 := h.im
  have q4 := h.imd
  have q5 := h.me
  have q6 := h.eb
  refine ⟨(((R.pm q3 q5).widen q2 (by omega) q6).trans (P.widen (Nat.le_refl _) (by omega) (by omega))).trans (P2.widen (by omega) (by omega) (Nat.le_refl _)), Srt.join (m := mid) (S.same fun r h1 h2 => P2.out r (by omega)) S2 fun p q h1 h2 h3 h4 => ?_⟩
  rw [P2.out p (by omega)]
  obtain ⟨p', a1, a2, ep⟩ := P.back h1 h2
  obtain ⟨q', b1, b2, eq⟩ := P2.back h3 h4
  rw [ep, eq, P.out q' (by omega)]
  by_cases hp : p' < i
  · rw [e1 p' hp]
    by_cases hq : q' < ee
    · rw [e3 q' b1 hq]; exact h.s1 _ _ a1 (by omega) (by omega)
    · rw [e4 q' (by omega)]
      have hx : (f (i - 1)).rk < (f ee).rk := by
        rcases h.x1 with e | e | e
        · omega
        · omega
        · exact e
      have h5 : (f p').rk ≤ (f (i - 1)).rk := by
        rcases Nat.eq_or_lt_of_le (show p' ≤ i - 1 by omega) with e | e
        · rw [e]; exact Int.le_refl _
        · exact Int.le_of_lt (h.s1 _ _ a1 e (by omega))
      have h6 : (f ee).rk ≤ (f q').rk := by
        rcases Nat.eq_or_lt_of_le (show ee ≤ q' by omega) with e | e
        · rw [e]; exact Int.le_refl _
        · exact Int.le_of_lt (h.s2 _ _ q5 e b2)
      omega
  · rw [e2 p' (by omega) a2]
    by_cases hq : q' < ee
    · rw [e3 q' b1 hq]
      have hx : (f (ee - 1)).rk < (f i).rk := by
        rcases h.x2 with e | e | e
        · omega
        · omega
        · exact e
      have h5 : (f (p' + m - i)).rk ≤ (f (ee - 1)).rk := by
        rcases Nat.eq_or_lt_of_le (show p' + m - i ≤ ee - 1 by omega) with e | e
        · rw [e]; exact Int.le_refl _
        · exact Int.le_of_lt (h.s2 _ _ (by omega) e (by omega))
      have h6 : (f i).rk ≤ (f (q' + m - ee)).rk := by
        rcases Nat.eq_or_lt_of_le (show i ≤ q' + m - ee by omega) with e | e
        · rw [e]; exact Int.le_refl _
        · exact Int.le_of_lt (h.s1 _ _ q2 e (by omega))
      omega
    · rw [e4 q' (by omega)]; exact h.s2 _ _ (by omega) (by omega) b2
set_option maxHeartbeats 16000000 in
set_option maxRecDepth 100000 in
theorem sym_gen_x (cap : Nat) (hn : n ≤ 1000000) (d : Nat) (ih' : ∀ (a m b : Nat) (f : Nat → El) (w : World), Bx w g n f → (∀ i, i < n → (f i).ok) → Srt El.rk f a m → Srt El.rk f m b → (∀ p q, a ≤ p → p < m → m ≤ q → q < b → (f p).idx < (f q).idx) → a < m → m < b → b ≤ n → b - a ≤ d → Calls Tryd.prog 132 #[.slice (some ⟨g, 0, none⟩) n cap, .int .i64 (a : Int), .int .i64 (m : Int), .int .i64 (b : Int), .func (.func 75) #[] #[]] w fun r w' => r = .returned (.tuple #[]) ∧ (∃ f', Bx w' g n f' ∧ Pm a b f f' ∧ Srt El.rk f' a b) ∧ Ap w.heap.size g w w') (a m b : Nat) (f : Nat → El) (w : World) (h : Bx w g n f) (hok : ∀ i, i < n → (f i).ok) (hs1 : Srt El.rk f a m) (hs2 : Srt El.rk f m b) (hx : ∀ p q, a ≤ p → p < m → m ≤ q → q < b → (f p).idx < (f q).idx) (ham : a < m) (hmb : m < b) (hb : b ≤ n) (c1 : ¬ (m : Int) - a = 1) (c2 : ¬ (b : Int) - m = 1) (hd : b - a ≤ d + 1) :
    Calls Tryd.prog 132 #[.slice (some ⟨g, 0, none⟩) n cap, .int .i64 (a : Int), .int .i64 (m : Int), .int .i64 (b : Int), .func (.func 75) #[] #[]] w fun r w' => r = .returned (.tuple #[]) ∧ (∃ f', Bx w' g n f' ∧ Pm a b f f' ∧ Srt El.rk f' a b) ∧ Ap w.heap.size g w w' := by
  have cq1 : ((m : Int) - a == 1) = false := beq_eq_false_iff_ne.2 c1
  have cq2 : ((b : Int) - m == 1) = false := beq_eq_false_iff_ne.2 c2
  have H := Aside0.mk h
  have OK := Aside0.mk hok
  have HX := Aside0.mk hx
  have HS1 := Aside0.mk hs1
  have HS2 := Aside0.mk hs2
  clear h hok hx hs1 hs2
  have ih := Aside0.mk ih'
  clear ih'
  go_enter Tryd.func132, Tryd.ntmps132
  go_upto_region 25 with (fail)
  obtain ⟨mid, em⟩ : ∃ mid : Nat, ((a : Int) + b) / 2 = (mid : Int) := ⟨(a + b) / 2, by omega⟩
  rw [em]
  have hm1 : 2 * mid ≤ a + b := by omega
  have hm2 : a + b ≤ 2 * mid + 1 := by omega
  clear em
  go_upto_if 140 with (fail)
  go_cut [20, 21] (fun v20 v21 wx => ∃ (s r : Nat), v20 = .int .i64 (s : Int) ∧ v21 = .int .i64 (r : Int) ∧ a ≤ s ∧ mid + m ≤ s + b ∧ s ≤ r ∧ r ≤ m ∧ r ≤ mid ∧ Aside0 (s = a ∨ mid + m = s + b) ∧ Aside0 (r = mid ∨ r = m) ∧ Aside0 (Bx wx g n f) ∧ Aside0 (Ap w.heap.size g w wx))
  case first => as_aux_lemma =>
    by_cases hmm : mid < m
    · go_wp2
      go_meet
      case rel => exact ⟨mid + m - b, mid, by go_num, rfl, by omega, by omega, by omega, by omega, by omega, ⟨.inr (by omega)⟩, ⟨.inl rfl⟩, ⟨H.out.up climb⟩, ⟨Ap.ofBelow climb (Nat.le_refl _)⟩⟩
    · go_wp2
      go_meet
      case rel => exact ⟨a, m, rfl, rfl, by omega, by omega, by omega, by omega, by omega, ⟨.inl rfl⟩, ⟨.inr rfl⟩, ⟨H.out.up climb⟩, ⟨Ap.ofBelow climb (Nat.le_refl _)⟩⟩
  case rest => as_aux_lemma =>
    clear H
    obtain ⟨s, r, rfl, rfl, has, hsb, hsr, hrm, hrd, Y1, Y2, S, SA⟩ := hcut
    go_wp2_with (fail)
    obtain ⟨pp, ep⟩ : ∃ pp : Nat, (mid : Int) + m - 1 = (pp : Int) := ⟨mid + m - 1, by omega⟩
    rw [ep]
    have hp1 : mid + m = pp + 1 := by omega
    clear ep
    go_loopg [20, 21] (r - s) (fun kq v20 v21 w' => ∃ (s r : Nat), v20 = .int .i64 (s : Int) ∧ v21 = .int .i64 (r : Int) ∧ a ≤ s ∧ mid + m ≤ s + b ∧ s ≤ r ∧ r ≤ m ∧ r ≤ mid ∧ r ≤ s + kq ∧ Aside0 (s = a ∨ mid + m = s + b ∨ (f (s - 1)).rk < (f (pp - (s - 1))).rk) ∧ Aside0 (r = mid ∨ r = m ∨ (f (pp - r)).rk < (f r).rk) ∧ Aside0 (Bx w' g n f) ∧ Aside0 (Ap w.heap.size g w w'))
    case atStart => exact ⟨s, r, rfl, rfl, by omega, by omega, by omega, by omega, by omega, by omega, ⟨Y1.out.imp id .inl⟩, ⟨Y2.out.imp id .inl⟩, ⟨S.out.up climb⟩, ⟨SA.out.climb climb⟩⟩
    case round => as_aux_lemma =>
      clear S SA has hsb hsr hrm hrd Y1 Y2
      obtain ⟨i, j, rfl, rfl, has, hsb, hsr, hrm, hrd, hk, Y1, Y2, S, SA⟩ := hrel
      by_cases hlt : i < j
      · go_upto_region 35 with (fail)
        obtain ⟨hh, eh⟩ : ∃ hh : Nat, ((i : Int) + j) / 2 = (hh : Int) := ⟨(i + j) / 2, by omega⟩
        rw [eh]
        have hh1 : i ≤ hh := by omega
        have hh2 : hh < j := by omega
        clear eh
        have r1 : (hh : Int) < n := by omega
        have r3 : (0 : Int) ≤ (pp : Int) - hh := by omega
        have r4 : (pp : Int) - hh < n := by omega
        have r5 : ((pp : Int) - hh).toNat = pp - hh := by omega
        have r6 : IntKind.i64.wrap ((pp : Int) - hh) = (pp : Int) - hh := by rw [IntKind.wrap_i64]; omega
        have r7 : (hh : Int) ≤ pp := by omega
        obtain ⟨k0, k1⟩ := S.out.at_ (i := (pp - hh)) (by omega)
        obtain ⟨k2, k3⟩ := S.out.at_ (i := hh) (by omega)
        have o1 := Aside0.mk (OK.out (pp - hh) (by omega))
        have o2 := Aside0.mk (OK.out hh (by omega))
        have j1 := Aside0.mk (HX.out hh (pp - hh) (by omega) (by omega) (by omega) (by omega))
        obtain ⟨x1, hx1⟩ : ∃ x, x = f (pp - hh) := ⟨_, rfl⟩
        obtain ⟨x2, hx2⟩ : ∃ x, x = f hh := ⟨_, rfl⟩
        rw [← hx1] at k0 k1 o1 j1
        rw [← hx2] at k2 k3 o2 j1
        have HX1 := Aside0.mk hx1
        have HX2 := Aside0.mk hx2
        clear hx1 hx2
        have L0 := Aside0.mk (two_cells k0 k1 k2 k3)
        go_region_held3 (fun w' => w'.cell? ⟨g, (pp - hh) * 2, none⟩ = some (.int .i64 x1.key) ∧ w'.cell? ⟨g, (pp - hh) * 2 + 1, none⟩ = some (.slice x1.A x1.l x1.c) ∧ w'.cell? ⟨g, hh * 2, none⟩ = some (.int .i64 x2.key) ∧ w'.cell? ⟨g, hh * 2 + 1, none⟩ = some (.slice x2.A x2.l x2.c)) (first | exact L0.out _ HB.out | exact L0.out _ (bl HB.out) | exact L0.out _ climb) (first | (go_at_call 75; (with_reducible refine (cmp_calls x1.key x2.key x1.A x2.A x1.l x1.c x2.l x2.c _).mono ?_); rintro _ w1 ⟨rfl, hb1⟩; have HB := Aside0.mk (show Below wr.heap.size wr w1 from below_step climb hb1); clear hb1))
        have S_ := Aside0.mk (S.out.up HB.out)
        have SA_ := Aside0.mk (SA.out.climb HB.out)
        clear S SA k0 k1 k2 k3 L0 HB
        have S := S_
        have SA := SA_
        clear S_ SA_
        by_cases hz : wrap64 (x1.key - x2.key) < 0
        · have hz2 : decide (wrap64 (x1.key - x2.key) < 0) = true := decide_eq_true hz
          have hlt := Aside0.mk (cmp_lt o1.out o2.out hz)
          clear hz
          simp only [hz2, Bool.not_true]
          go_wp2
          go_roundg (hh - i)
          case measure => omega
          case rel => exact ⟨i, hh, rfl, rfl, by omega, by omega, by omega, by omega, by omega, by omega, Y1, ⟨.inr (.inr (by rw [← HX1.out, ← HX2.out]; exact hlt.out))⟩, ⟨S.out.up climb⟩, ⟨SA.out.climb climb⟩⟩
        · have hz2 : decide (wrap64 (x1.key - x2.key) < 0) = false := decide_eq_false hz
          have hge := Aside0.mk (cmp_ge o1.out o2.out j1.out hz)
          clear hz
          simp only [hz2, Bool.not_false]
          go_wp2
          go_roundg (j - (hh + 1))
          case measure => omega
          case rel => exact ⟨hh + 1, j, by go_num, rfl, by omega, by omega, by omega, by omega, by omega, by omega, ⟨.inr (.inr (by rw [Nat.add_sub_cancel, ← HX1.out, ← HX2.out]; exact hge.out))⟩, Y2, ⟨S.out.up climb⟩, ⟨SA.out.climb climb⟩⟩
      · go_upto_region 39 with (fail)
        obtain ⟨ee, en⟩ : ∃ ee : Nat, (mid : Int) + m - i = (ee : Int) := ⟨mid + m - i, by omega⟩
        rw [en]
        have he1 : mid + m = ee + i := by omega
        clear en
        have G := Aside0.mk (show Sg f a m b mid i ee from ⟨has, by omega, by omega, by omega, by omega, he1, HS1.out, HS2.out, by
            rcases Y1.out with e | e | e
            · exact .inl e
            · exact .inr (.inl (by omega))
            · by_cases hia : i = a
              · exact .inl hia
              · refine .inr (.inr ?_)
                rw [show ee = pp - (i - 1) from by omega]; exact e, by
            rcases Y2.out with e | e | e
            · exact .inl (by omega)
            · exact .inr (.inl (by omega))
            · by_cases him : ee = m
              · exact .inl him
              · refine .inr (.inr ?_)
                rw [show ee - 1 = pp - j from by omega, show i = j from by omega]; exact e, HX.out⟩)
        have hij : i = j := by omega
        subst hij
        clear Y1 Y2
        have S_ := Aside0.mk (S.out.up (w' := _) climb)
        have SA_ := Aside0.mk (SA.out.climb (w2 := _) climb)
        clear S SA
        have S := S_
        have SA := SA_
        clear S_ SA_ hk hlt hsr
        have hib : i ≤ mid := hrd
        go_cut [185] (fun vc wx => ∃ (tt : Bool), vc = .bool tt ∧ (tt = true → i < m ∧ m < ee) ∧ (tt = false → ¬ (i < m ∧ m < ee)) ∧ Aside0 (Bx wx g n f) ∧ Aside0 (Ap w.heap.size g w wx))
        case first => as_aux_lemma =>
          by_cases q1 : i < m
          · by_cases q2 : m < ee
            · go_wp2
              go_meet
              case rel => exact ⟨_, rfl, fun _ => ⟨q1, q2⟩, fun h => by simp at h; try omega, ⟨S.out.up climb⟩, ⟨SA.out.climb climb⟩⟩
            · go_wp2
              go_meet
              case rel => exact ⟨_, rfl, fun h => by simp at h, fun _ => by omega, ⟨S.out.up climb⟩, ⟨SA.out.climb climb⟩⟩
          · go_wp2
            go_meet
            case rel => exact ⟨_, rfl, fun h => by simp at h, fun _ => by omega, ⟨S.out.up climb⟩, ⟨SA.out.climb climb⟩⟩
        case rest => as_aux_lemma =>
          clear S SA
          obtain ⟨tt, rfl, htt, hff, S, SA⟩ := hcut
          go_upto_if 185 with (fail)
          go_cut [] (fun wx => ∃ (f2 : Nat → El), Aside0 (Bx wx g n f2) ∧ Aside0 (Rot i m ee f f2) ∧ Aside0 (Ap w.heap.size g w wx))
          case first => as_aux_lemma =>
            cases tt
            · have HF := Aside0.mk (hff rfl)
              clear hff htt
              go_wp2
              go_meet
              case rel => exact ⟨f, ⟨S.out.up climb⟩, ⟨rot_trivial f HF.out (by omega) (by omega)⟩, ⟨SA.out.climb climb⟩⟩
            · have htt := htt rfl
              go_wp2_with (first | (go_at_call 148; (with_reducible refine (rotate_x _ i m ee cap _ (S.out.up climb) (by omega) (by omega) (by omega) hn).mono ?_); rintro _ w1 ⟨rfl, ⟨f2, S', K'⟩, A'⟩; have S1 := Aside0.mk S'; have K1 := Aside0.mk K'; have SA1 := Aside0.mk ((SA.out.climb climb).seq A'); clear S' A' K'))
              go_meet
              case rel => exact ⟨f2, ⟨S1.out.up climb⟩, K1, ⟨SA1.out.climb climb⟩⟩
          case rest => as_aux_lemma =>
            clear S SA htt hff tt
            obtain ⟨f2, S, R, SA⟩ := hcut
            go_upto_region 41 with (fail)
            go_cut [199] (fun vc wx => ∃ (tt : Bool), vc = .bool tt ∧ (tt = true → a < i ∧ i < mid) ∧ (tt = false → ¬ (a < i ∧ i < mid)) ∧ Aside0 (Bx wx g n f2) ∧ Aside0 (Ap w.heap.size g w wx))
            case first => as_aux_lemma =>
              by_cases q1 : a < i
              · by_cases q2 : i < mid
                · go_wp2
                  go_meet
                  case rel => exact ⟨_, rfl, fun _ => ⟨q1, q2⟩, fun h => by simp at h; try omega, ⟨S.out.up climb⟩, ⟨SA.out.climb climb⟩⟩
                · go_wp2
                  go_meet
                  case rel => exact ⟨_, rfl, fun h => by simp at h, fun _ => by omega, ⟨S.out.up climb⟩, ⟨SA.out.climb climb⟩⟩
              · go_wp2
                go_meet
                case rel => exact ⟨_, rfl, fun h => by simp at h, fun _ => by omega, ⟨S.out.up climb⟩, ⟨SA.out.climb climb⟩⟩
            case rest => as_aux_lemma =>
              clear S SA
              obtain ⟨tt, rfl, htt, hff, S, SA⟩ := hcut
              go_upto_if 199 with (fail)
              go_cut [] (fun wx => ∃ (f3 : Nat → El), Aside0 (Bx wx g n f3) ∧ Aside0 (Pm a mid f2 f3 ∧ Srt El.rk f3 a mid) ∧ Aside0 (Ap w.heap.size g w wx))
              case first => as_aux_lemma =>
                cases tt
                · have HF := Aside0.mk (hff rfl)
                  clear hff htt
                  go_wp2
                  go_meet
                  case rel => exact ⟨f2, ⟨S.out.up climb⟩, ⟨Pm.refl _ _ _, G.out.triv1 R.out HF.out⟩, ⟨SA.out.climb climb⟩⟩
                · have htt := htt rfl
                  go_wp2_with (first | (go_at_call 132; (with_reducible refine (ih.out a i mid f2 _ (S.out.up climb) (pm_all (R.out.pm (by omega) (by omega)) (by omega) OK.out) (G.out.one R.out).1 (G.out.one R.out).2.1 (G.out.one R.out).2.2 (by omega) (by omega) (by omega) (by omega)).mono ?_); rintro _ w1 ⟨rfl, ⟨f3, S', K'⟩, A'⟩; have S1 := Aside0.mk S'; have K1 := Aside0.mk K'; have SA1 := Aside0.mk ((SA.out.climb climb).seq A'); clear S' A' K'))
                  go_meet
                  case rel => exact ⟨f3, ⟨S1.out.up climb⟩, K1, ⟨SA1.out.climb climb⟩⟩
              case rest => as_aux_lemma =>
                clear S SA htt hff tt
                obtain ⟨f3, S, P, SA⟩ := hcut
                go_upto_region 43 with (fail)
                go_cut [213] (fun vc wx => ∃ (tt : Bool), vc = .bool tt ∧ (tt = true → mid < ee ∧ ee < b) ∧ (tt = false → ¬ (mid < ee ∧ ee < b)) ∧ Aside0 (Bx wx g n f3) ∧ Aside0 (Ap w.heap.size g w wx))
                case first => as_aux_lemma =>
                  by_cases q1 : mid < ee
                  · by_cases q2 : ee < b
                    · go_wp2
                      go_meet
                      case rel => exact ⟨_, rfl, fun _ => ⟨q1, q2⟩, fun h => by simp at h; try omega, ⟨S.out.up climb⟩, ⟨SA.out.climb climb⟩⟩
                    · go_wp2
                      go_meet
                      case rel => exact ⟨_, rfl, fun h => by simp at h, fun _ => by omega, ⟨S.out.up climb⟩, ⟨SA.out.climb climb⟩⟩
                  · go_wp2
                    go_meet
                    case rel => exact ⟨_, rfl, fun h => by simp at h, fun _ => by omega, ⟨S.out.up climb⟩, ⟨SA.out.climb climb⟩⟩
                case rest => as_aux_lemma =>
                  clear S SA
                  obtain ⟨tt, rfl, htt, hff, S, SA⟩ := hcut
                  go_upto_if 213 with (fail)
                  cases tt
                  · have HF := Aside0.mk (hff rfl)
                    clear hff htt
                    go_wp2
                    go_end0
                    exact ⟨rfl, ⟨f3, S.out.up climb, G.out.fin R.out P.out.1 P.out.2 (Pm.refl _ _ _) (G.out.triv2 R.out P.out.1 HF.out)⟩, SA.out.climb climb⟩
                  · have htt := htt rfl
                    go_wp2_with (first | (go_at_call 132; (with_reducible refine (ih.out mid ee b f3 _ (S.out.up climb) (pm_all P.out.1 (by omega) (pm_all (R.out.pm (by omega) (by omega)) (by omega) OK.out)) (G.out.two R.out P.out.1).1 (G.out.two R.out P.out.1).2.1 (G.out.two R.out P.out.1).2.2 (by omega) (by omega) (by omega) (by omega)).mono ?_); rintro _ w1 ⟨rfl, ⟨f4, S', K', K2'⟩, A'⟩; have S1 := Aside0.mk S'; have K1 := Aside0.mk K'; have K2 := Aside0.mk K2'; have SA1 := Aside0.mk ((SA.out.climb climb).seq A'); clear S' A' K' K2'))
                    go_end0
                    exact ⟨rfl, ⟨f4, S1.out.up climb, G.out.fin R.out P.out.1 P.out.2 K1.out K2.out⟩, SA1.out.climb climb⟩
end Go.Proofs.YtefhcgnamfnkbaaDoor.Pr
