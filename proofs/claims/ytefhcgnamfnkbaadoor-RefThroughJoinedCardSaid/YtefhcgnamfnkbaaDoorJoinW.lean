/- axis.Join, walked by hand. Printed by wip/tools/joinwalk.py. -/
import Derived.Test.YtefhcgnamfnkbaaDoorJoin
import Derived.Deep.LoopGhost
namespace Go.Proofs.YtefhcgnamfnkbaaDoor.Pr
open Go.RowKit Go.Proofs.YtefhcgnamfnkbaaDoorW.PrintWords Go.Proofs.YtefhcgnamfnkbaaDoorW.PrintLast Go.Proofs.YtefhcgnamfnkbaaDoorW.PrintMore
attribute [local go_sem] max2_int min2_int max_two min_two max_three min_three max_four min_four

/-- What Join answers. -/
def joinF (k : Nat) (la lb : List S127) : Option (List S127 × Int) :=
  (axis_Check.f k la).bind fun e1 => if e1 = 0 then (axis_Check.f k lb).bind fun e2 => if e2 = 0 then
    (axis_lengths.f k la).bind fun m => (axis_lengths.f k lb).bind fun m' => if m'.1 = m.2 then
      (joinN k la 0 lb 0 [] 0 0).bind fun r => if r.1.length + 3 ≤ 1099511627776 then (axis_Check.f k (r.1 ++ adds 1 r.2.1 ++ adds 2 r.2.2)).bind fun e => some (if e = 0 then r.1 ++ adds 1 r.2.1 ++ adds 2 r.2.2 else [], if e = 0 then 0 else 3) else none
    else some ([], 14) else some ([], e2) else some ([], e1)
theorem Jn.new {w w4 : World} {A A' : Option Addr} {c c' : Nat} {la lb : List S127} (hb : Below w.heap.size w w4) (sa : St w A c la) (sb : St w A' c' lb) :
    Jn w (w4.heap.size + 3) w4.heap.size (w4.heap.size + 1) (w4.heap.size + 2) (((w4.alloc (.cells #[.slice none 0 0, .int .i64 0, .int .i64 0] 117)).alloc (.cells #[.slice A la.length c, .int .i64 0] 120)).alloc (.cells #[.slice A' lb.length c', .int .i64 0] 120)) la 0 lb 0 [] 0 0 := by
  have h1 := below_alloc hb (.cells #[.slice none 0 0, .int .i64 0, .int .i64 0] 117)
  have h2 := below_alloc h1 (.cells #[.slice A la.length c, .int .i64 0] 120)
  have r1 := Rd.new sa h1
  have r2 := Rd.new sb h2
  simp only [World.size_alloc] at r1 r2
  refine ⟨r1.up climb, r2, ⟨none, 0, blk_alloc (blk_alloc (blk_new w4 _) _) _, by omega, by simp, ?_⟩, below_alloc h2 _, by omega, by omega, by omega, by omega, by omega, hb.size⟩
  exact World.ownsRow_nil _ _ _ _
set_option maxHeartbeats 8000000 in
set_option maxRecDepth 100000 in
theorem join_calls (k : Nat) (A1 : Option Addr) (c1 : Nat) (la : List S127) (A2 : Option Addr) (c2 : Nat) (lb r : List S127) (e : Int) (w : World) (hGl : Gl w) (sa : St w A1 c1 la) (sb : St w A2 c2 lb) (h : joinF k la lb = some (r, e)) :
    Calls Tryd.prog 24 #[.slice A1 la.length c1, .slice A2 lb.length c2] w fun x w' => ∃ A c, x = .returned (.tuple #[.slice A r.length c, .int .i64 e]) ∧ St w' A c r ∧ Below w.heap.size w w' := by
  have SA := Aside0.mk sa
  have SB := Aside0.mk sb
  have HB := Aside0.mk (Below.refl w.heap.size w)
  clear sa sb
  obtain ⟨e1, g1, h⟩ := Option.bind_eq_some_iff.1 h
  have G1 := Aside0.mk g1
  clear g1
  by_cases z1 : e1 = 0
  case neg =>
    rw [if_neg z1] at h
    obtain ⟨rfl, rfl⟩ := Prod.mk.inj (Option.some.inj h)
    clear h
    go_enter Tryd.func24, Tryd.ntmps24
    go_wp2_with (first
    | (go_at_call 61; (with_reducible refine (axis_Check.calls k A1 c1 la _ _ (SA.out.up (bl HB.out)).reads SA.out.len (gl_below hGl (bl HB.out)) G1.out).mono ?_); rintro _ w1 ⟨rfl, hb⟩; have HB_ := Aside0.mk (below_step (bl HB.out) hb); clear HB hb; have HB := HB_; clear HB_))
    go_ret2
    exact ⟨none, 0, rfl, St.nil _, bl HB.out⟩
  subst z1
  rw [if_pos rfl] at h
  obtain ⟨e2, g2, h⟩ := Option.bind_eq_some_iff.1 h
  have G2 := Aside0.mk g2
  clear g2
  by_cases z2 : e2 = 0
  case neg =>
    rw [if_neg z2] at h
    obtain ⟨rfl, rfl⟩ := Prod.mk.inj (Option.some.inj h)
    clear h
    go_enter Tryd.func24, Tryd.ntmps24
    go_wp2_with (first
    | (go_at_call 61; (with_reducible refine (axis_Check.calls k A1 c1 la _ _ (SA.out.up (bl HB.out)).reads SA.out.len (gl_below hGl (bl HB.out)) G1.out).mono ?_); rintro _ w1 ⟨rfl, hb⟩; have HB_ := Aside0.mk (below_step (bl HB.out) hb); clear HB hb; have HB := HB_; clear HB_)
    | (go_at_call 61; (with_reducible refine (axis_Check.calls k A2 c2 lb _ _ (SB.out.up (bl HB.out)).reads SB.out.len (gl_below hGl (bl HB.out)) G2.out).mono ?_); rintro _ w2 ⟨rfl, hb⟩; have HB_ := Aside0.mk (below_step (bl HB.out) hb); clear HB hb; have HB := HB_; clear HB_))
    go_ret2
    exact ⟨none, 0, rfl, St.nil _, bl HB.out⟩
  subst z2
  rw [if_pos rfl] at h
  obtain ⟨⟨m, n⟩, g3, h⟩ := Option.bind_eq_some_iff.1 h
  obtain ⟨⟨m', n'⟩, g4, h⟩ := Option.bind_eq_some_iff.1 h
  dsimp only at h
  have G3 := Aside0.mk g3
  have G4 := Aside0.mk g4
  clear g3 g4
  by_cases z3 : m' = n
  case neg =>
    rw [if_neg z3] at h
    obtain ⟨rfl, rfl⟩ := Prod.mk.inj (Option.some.inj h)
    clear h
    go_enter Tryd.func24, Tryd.ntmps24
    go_wp2_with (first
    | (go_at_call 61; (with_reducible refine (axis_Check.calls k A1 c1 la _ _ (SA.out.up (bl HB.out)).reads SA.out.len (gl_below hGl (bl HB.out)) G1.out).mono ?_); rintro _ w1 ⟨rfl, hb⟩; have HB_ := Aside0.mk (below_step (bl HB.out) hb); clear HB hb; have HB := HB_; clear HB_)
    | (go_at_call 61; (with_reducible refine (axis_Check.calls k A2 c2 lb _ _ (SB.out.up (bl HB.out)).reads SB.out.len (gl_below hGl (bl HB.out)) G2.out).mono ?_); rintro _ w2 ⟨rfl, hb⟩; have HB_ := Aside0.mk (below_step (bl HB.out) hb); clear HB hb; have HB := HB_; clear HB_)
    | (go_at_call 62; (with_reducible refine (axis_lengths.calls k A1 c1 la _ _ _ (SA.out.up (bl HB.out)).reads SA.out.len (gl_below hGl (bl HB.out)) G3.out).mono ?_); rintro _ w3 ⟨rfl, hb⟩; have HB_ := Aside0.mk (below_step (bl HB.out) hb); clear HB hb; have HB := HB_; clear HB_)
    | (go_at_call 62; (with_reducible refine (axis_lengths.calls k A2 c2 lb _ _ _ (SB.out.up (bl HB.out)).reads SB.out.len (gl_below hGl (bl HB.out)) G4.out).mono ?_); rintro _ w4 ⟨rfl, hb⟩; have HB_ := Aside0.mk (below_step (bl HB.out) hb); clear HB hb; have HB := HB_; clear HB_))
    go_ret2
    exact ⟨none, 0, rfl, St.nil _, bl HB.out⟩
  subst z3
  rw [if_pos rfl] at h
  obtain ⟨⟨l9, a9, c9⟩, g5, h⟩ := Option.bind_eq_some_iff.1 h
  dsimp only at h
  split at h
  case isFalse => cases h
  rename_i hl9
  obtain ⟨e9, g6, h⟩ := Option.bind_eq_some_iff.1 h
  obtain ⟨hr, he⟩ := Prod.mk.inj (Option.some.inj h)
  have HR := Aside0.mk hr
  have HE := Aside0.mk he
  clear h hr he
  have G5 := Aside0.mk g5
  have G6 := Aside0.mk g6
  clear g5 g6
  go_enter Tryd.func24, Tryd.ntmps24
  go_wp2_with (first
    | (go_at_call 61; (with_reducible refine (axis_Check.calls k A1 c1 la _ _ (SA.out.up (bl HB.out)).reads SA.out.len (gl_below hGl (bl HB.out)) G1.out).mono ?_); rintro _ w1 ⟨rfl, hb⟩; have HB_ := Aside0.mk (below_step (bl HB.out) hb); clear HB hb; have HB := HB_; clear HB_)
    | (go_at_call 61; (with_reducible refine (axis_Check.calls k A2 c2 lb _ _ (SB.out.up (bl HB.out)).reads SB.out.len (gl_below hGl (bl HB.out)) G2.out).mono ?_); rintro _ w2 ⟨rfl, hb⟩; have HB_ := Aside0.mk (below_step (bl HB.out) hb); clear HB hb; have HB := HB_; clear HB_)
    | (go_at_call 62; (with_reducible refine (axis_lengths.calls k A1 c1 la _ _ _ (SA.out.up (bl HB.out)).reads SA.out.len (gl_below hGl (bl HB.out)) G3.out).mono ?_); rintro _ w3 ⟨rfl, hb⟩; have HB_ := Aside0.mk (below_step (bl HB.out) hb); clear HB hb; have HB := HB_; clear HB_)
    | (go_at_call 62; (with_reducible refine (axis_lengths.calls k A2 c2 lb _ _ _ (SB.out.up (bl HB.out)).reads SB.out.len (gl_below hGl (bl HB.out)) G4.out).mono ?_); rintro _ w4 ⟨rfl, hb⟩; have HB_ := Aside0.mk (below_step (bl HB.out) hb); clear HB hb; have HB := HB_; clear HB_))
  go_loopg [15] k (fun kq v15 w' => ∃ (P : List S127) (u : Int) (Q : List S127) (v : Int) (l : List S127) (a c : Int), Aside0 (joinN kq P u Q v l a c = some (l9, a9, c9)) ∧ Aside0 (kq ≤ k) ∧ Aside0 (Jn w (w4.heap.size + 3) w4.heap.size (w4.heap.size + 1) (w4.heap.size + 2) w' P u Q v l a c))
  case atStart => exact ⟨la, 0, lb, 0, [], 0, 0, G5, ⟨Nat.le_refl _⟩, ⟨Jn.new HB.out SA.out SB.out⟩⟩
  case round =>
    clear G5
    obtain ⟨P, u, Q, v, l, a, c, HA, HK1, S⟩ := hrel
    cases gk with
    | zero => exact absurd HA.out (by simp [joinN])
    | succ k1 =>
      have h := HA.out
      clear HA
      unfold joinN at h
      split at h
      case isFalse => cases h
      rename_i hl
      cases P with
      | nil =>
        cases Q with
        | nil =>
          obtain ⟨rfl, rfl, rfl⟩ : l = l9 ∧ a = a9 ∧ c = c9 := by simpa using h
          clear h
          have Sb : w.heap.size ≤ w4.heap.size + 3 := by have := HB.out.size; omega
          go_wp2_with (first
            | (go_at_call 63; (with_reducible refine (jkp0 (S.out.up climb)).mono ?_); rintro _ wz ⟨rfl, h_⟩; have S_ := Aside0.mk h_; clear S h_; have S := S_; clear S_)
            | (go_at_call 63; (with_reducible refine (jkq0 (S.out.up climb)).mono ?_); rintro _ wz ⟨rfl, h_⟩; have S_ := Aside0.mk h_; clear S h_; have S := S_; clear S_)
            | (go_at_call 67; (with_reducible refine (done_calls k _ _ l a c e9 w _ hGl (S.out.up climb).bw (S.out.up climb).ng Sb (S.out.up climb).wr (by omega) G6.out).mono ?_); rintro _ wz ⟨A9, cap9, hx9, hs9, ha9⟩; rw [HR.out, HE.out] at hx9; rw [HR.out] at hs9; subst hx9; have S9 := Aside0.mk hs9; have HE9 := Aside0.mk (Ap.then (S.out.up climb).bw ha9 (S.out.up climb).ng Sb); clear hs9 ha9))
          go_ret2
          exact ⟨A9, cap9, rfl, S9.out.up climb, bl HE9.out⟩
        | cons y t =>
          simp only at h
          by_cases hy : y.f0 = 1
          case neg => rw [if_neg hy] at h; cases h
          rw [if_pos hy] at h
          have H' := Aside0.mk h
          clear h
          go_wp2_with (first
          | (go_at_call 63; (with_reducible refine (jkp0 (S.out.up climb)).mono ?_); rintro _ wz ⟨rfl, h_⟩; have S_ := Aside0.mk h_; clear S h_; have S := S_; clear S_)
          | (go_at_call 63; (with_reducible refine (jkq (S.out.up climb)).mono ?_); rintro _ wz ⟨rfl, h_⟩; have S_ := Aside0.mk h_; clear S h_; have S := S_; clear S_)
          | (go_at_call 65; (with_reducible refine (jlq (S.out.up climb)).mono ?_); rintro _ wz ⟨rfl, h_⟩; have S_ := Aside0.mk h_; clear S h_; have S := S_; clear S_)
          | (go_at_call 64; (with_reducible refine (jput _ _ hl (S.out.up climb)).mono ?_); rintro _ wz ⟨rfl, h_⟩; have S_ := Aside0.mk h_; clear S h_; have S := S_; clear S_)
          | (go_at_call 66; (with_reducible refine (jtq _ (S.out.up climb)).mono ?_); rintro _ wz ⟨rfl, h_⟩; have S_ := Aside0.mk h_; clear S h_; have S := S_; clear S_))
          all_goals
            go_roundg k1
            case measure => have := HK1.out; omega
            case rel => exact ⟨_, _, _, _, _, _, _, H', ⟨by have := HK1.out; omega⟩, ⟨S.out.up climb⟩⟩
      | cons x s =>
        simp only at h
        by_cases hx : x.f0 = 2
        case pos =>
          rw [if_pos hx] at h
          have H' := Aside0.mk h
          clear h
          go_wp2_with (first
          | (go_at_call 63; (with_reducible refine (jkp (S.out.up climb)).mono ?_); rintro _ wz ⟨rfl, h_⟩; have S_ := Aside0.mk h_; clear S h_; have S := S_; clear S_)
          | (go_at_call 65; (with_reducible refine (jlp (S.out.up climb)).mono ?_); rintro _ wz ⟨rfl, h_⟩; have S_ := Aside0.mk h_; clear S h_; have S := S_; clear S_)
          | (go_at_call 64; (with_reducible refine (jput _ _ hl (S.out.up climb)).mono ?_); rintro _ wz ⟨rfl, h_⟩; have S_ := Aside0.mk h_; clear S h_; have S := S_; clear S_)
          | (go_at_call 66; (with_reducible refine (jtp _ (S.out.up climb)).mono ?_); rintro _ wz ⟨rfl, h_⟩; have S_ := Aside0.mk h_; clear S h_; have S := S_; clear S_))
          all_goals
            go_roundg k1
            case measure => have := HK1.out; omega
            case rel => exact ⟨_, _, _, _, _, _, _, H', ⟨by have := HK1.out; omega⟩, ⟨S.out.up climb⟩⟩
        case neg =>
          rw [if_neg hx] at h
          cases Q with
          | nil => simp only at h; cases h
          | cons y t =>
            simp only at h
            split at h
            case isFalse => cases h
            rename_i hx01
            by_cases hy : y.f0 = 1
            case pos =>
              rw [if_pos hy] at h
              have hx0 : 0 ≤ x.f0 := by omega
              clear hx01
              have H' := Aside0.mk h
              clear h
              go_wp2_with (first
          | (go_at_call 63; (with_reducible refine (jkp (S.out.up climb)).mono ?_); rintro _ wz ⟨rfl, h_⟩; have S_ := Aside0.mk h_; clear S h_; have S := S_; clear S_)
          | (go_at_call 63; (with_reducible refine (jkq (S.out.up climb)).mono ?_); rintro _ wz ⟨rfl, h_⟩; have S_ := Aside0.mk h_; clear S h_; have S := S_; clear S_)
          | (go_at_call 65; (with_reducible refine (jlp (S.out.up climb)).mono ?_); rintro _ wz ⟨rfl, h_⟩; have S_ := Aside0.mk h_; clear S h_; have S := S_; clear S_)
          | (go_at_call 65; (with_reducible refine (jlq (S.out.up climb)).mono ?_); rintro _ wz ⟨rfl, h_⟩; have S_ := Aside0.mk h_; clear S h_; have S := S_; clear S_)
          | (go_at_call 64; (with_reducible refine (jput _ _ hl (S.out.up climb)).mono ?_); rintro _ wz ⟨rfl, h_⟩; have S_ := Aside0.mk h_; clear S h_; have S := S_; clear S_)
          | (go_at_call 66; (with_reducible refine (jtp _ (S.out.up climb)).mono ?_); rintro _ wz ⟨rfl, h_⟩; have S_ := Aside0.mk h_; clear S h_; have S := S_; clear S_)
          | (go_at_call 66; (with_reducible refine (jtq _ (S.out.up climb)).mono ?_); rintro _ wz ⟨rfl, h_⟩; have S_ := Aside0.mk h_; clear S h_; have S := S_; clear S_))
              all_goals
                go_roundg k1
                case measure => have := HK1.out; omega
                case rel => exact ⟨_, _, _, _, _, _, _, H', ⟨by have := HK1.out; omega⟩, ⟨S.out.up climb⟩⟩
            case neg =>
              rw [if_neg hy] at h
              split at h
              case isFalse => cases h
              rename_i hy02
              by_cases hx1 : x.f0 = 0
              case pos =>
                rw [if_pos hx1] at h
                clear hx hx01 hy02
                have H' := Aside0.mk h
                clear h
                go_wp2_with (first
          | (go_at_call 63; (with_reducible refine (jkp (S.out.up climb)).mono ?_); rintro _ wz ⟨rfl, h_⟩; have S_ := Aside0.mk h_; clear S h_; have S := S_; clear S_)
          | (go_at_call 63; (with_reducible refine (jkq (S.out.up climb)).mono ?_); rintro _ wz ⟨rfl, h_⟩; have S_ := Aside0.mk h_; clear S h_; have S := S_; clear S_)
          | (go_at_call 65; (with_reducible refine (jlp (S.out.up climb)).mono ?_); rintro _ wz ⟨rfl, h_⟩; have S_ := Aside0.mk h_; clear S h_; have S := S_; clear S_)
          | (go_at_call 65; (with_reducible refine (jlq (S.out.up climb)).mono ?_); rintro _ wz ⟨rfl, h_⟩; have S_ := Aside0.mk h_; clear S h_; have S := S_; clear S_)
          | (go_at_call 64; (with_reducible refine (jput _ _ hl (S.out.up climb)).mono ?_); rintro _ wz ⟨rfl, h_⟩; have S_ := Aside0.mk h_; clear S h_; have S := S_; clear S_)
          | (go_at_call 66; (with_reducible refine (jtp _ (S.out.up climb)).mono ?_); rintro _ wz ⟨rfl, h_⟩; have S_ := Aside0.mk h_; clear S h_; have S := S_; clear S_)
          | (go_at_call 66; (with_reducible refine (jtq _ (S.out.up climb)).mono ?_); rintro _ wz ⟨rfl, h_⟩; have S_ := Aside0.mk h_; clear S h_; have S := S_; clear S_))
                all_goals
                  go_roundg k1
                  case measure => have := HK1.out; omega
                  case rel => exact ⟨_, _, _, _, _, _, _, H', ⟨by have := HK1.out; omega⟩, ⟨S.out.up climb⟩⟩
              case neg =>
                rw [if_neg hx1] at h
                have hx2 : x.f0 = 1 := by omega
                clear hx hx01 hx1
                by_cases hy0 : y.f0 = 0
                case pos =>
                  rw [if_pos hy0] at h
                  clear hy hy02
                  have H' := Aside0.mk h
                  clear h
                  go_wp2_with (first
          | (go_at_call 63; (with_reducible refine (jkp (S.out.up climb)).mono ?_); rintro _ wz ⟨rfl, h_⟩; have S_ := Aside0.mk h_; clear S h_; have S := S_; clear S_)
          | (go_at_call 63; (with_reducible refine (jkq (S.out.up climb)).mono ?_); rintro _ wz ⟨rfl, h_⟩; have S_ := Aside0.mk h_; clear S h_; have S := S_; clear S_)
          | (go_at_call 65; (with_reducible refine (jlp (S.out.up climb)).mono ?_); rintro _ wz ⟨rfl, h_⟩; have S_ := Aside0.mk h_; clear S h_; have S := S_; clear S_)
          | (go_at_call 65; (with_reducible refine (jlq (S.out.up climb)).mono ?_); rintro _ wz ⟨rfl, h_⟩; have S_ := Aside0.mk h_; clear S h_; have S := S_; clear S_)
          | (go_at_call 64; (with_reducible refine (jput _ _ hl (S.out.up climb)).mono ?_); rintro _ wz ⟨rfl, h_⟩; have S_ := Aside0.mk h_; clear S h_; have S := S_; clear S_)
          | (go_at_call 66; (with_reducible refine (jtp _ (S.out.up climb)).mono ?_); rintro _ wz ⟨rfl, h_⟩; have S_ := Aside0.mk h_; clear S h_; have S := S_; clear S_)
          | (go_at_call 66; (with_reducible refine (jtq _ (S.out.up climb)).mono ?_); rintro _ wz ⟨rfl, h_⟩; have S_ := Aside0.mk h_; clear S h_; have S := S_; clear S_))
                  all_goals
                    go_roundg k1
                    case measure => have := HK1.out; omega
                    case rel => exact ⟨_, _, _, _, _, _, _, H', ⟨by have := HK1.out; omega⟩, ⟨S.out.up climb⟩⟩
                case neg =>
                  rw [if_neg hy0] at h
                  have hy2 : y.f0 = 2 := by omega
                  clear hy hy02 hy0
                  have H' := Aside0.mk h
                  clear h
                  go_wp2_with (first
          | (go_at_call 63; (with_reducible refine (jkp (S.out.up climb)).mono ?_); rintro _ wz ⟨rfl, h_⟩; have S_ := Aside0.mk h_; clear S h_; have S := S_; clear S_)
          | (go_at_call 63; (with_reducible refine (jkq (S.out.up climb)).mono ?_); rintro _ wz ⟨rfl, h_⟩; have S_ := Aside0.mk h_; clear S h_; have S := S_; clear S_)
          | (go_at_call 65; (with_reducible refine (jlp (S.out.up climb)).mono ?_); rintro _ wz ⟨rfl, h_⟩; have S_ := Aside0.mk h_; clear S h_; have S := S_; clear S_)
          | (go_at_call 65; (with_reducible refine (jlq (S.out.up climb)).mono ?_); rintro _ wz ⟨rfl, h_⟩; have S_ := Aside0.mk h_; clear S h_; have S := S_; clear S_)
          | (go_at_call 64; (with_reducible refine (jput _ _ hl (S.out.up climb)).mono ?_); rintro _ wz ⟨rfl, h_⟩; have S_ := Aside0.mk h_; clear S h_; have S := S_; clear S_)
          | (go_at_call 66; (with_reducible refine (jtp _ (S.out.up climb)).mono ?_); rintro _ wz ⟨rfl, h_⟩; have S_ := Aside0.mk h_; clear S h_; have S := S_; clear S_)
          | (go_at_call 66; (with_reducible refine (jtq _ (S.out.up climb)).mono ?_); rintro _ wz ⟨rfl, h_⟩; have S_ := Aside0.mk h_; clear S h_; have S := S_; clear S_))
                  all_goals
                    go_roundg k1
                    case measure => have := HK1.out; omega
                    case rel => exact ⟨_, _, _, _, _, _, _, H', ⟨by have := HK1.out; omega⟩, ⟨S.out.up climb⟩⟩
end Go.Proofs.YtefhcgnamfnkbaaDoor.Pr

