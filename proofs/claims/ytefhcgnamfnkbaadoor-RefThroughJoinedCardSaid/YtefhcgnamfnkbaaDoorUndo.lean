/- axis.Undo, walked by hand. -/
import Derived.Test.YtefhcgnamfnkbaaDoorJoin
import Derived.Deep.LoopGhost
namespace Go.Proofs.YtefhcgnamfnkbaaDoor.Pr
open Go.RowKit Go.Proofs.YtefhcgnamfnkbaaDoorW.PrintWords Go.Proofs.YtefhcgnamfnkbaaDoorW.PrintLast Go.Proofs.YtefhcgnamfnkbaaDoorW.PrintMore

structure Un (w0 : World) (B g : Nat) (w : World) (l : List S127) (a c : Int) : Prop where
  wr : Wr B w g l a c
  bw : Below w0.heap.size w0 w
  ng : w0.heap.size ≤ g
  nb : w0.heap.size ≤ B
variable {w0 w w' : World} {B g : Nat} {l : List S127} {a c : Int}
theorem Un.up (h : Un w0 B g w l a c) (k : Below w.heap.size w w') : Un w0 B g w' l a c := ⟨h.wr.up k, below_step h.bw k, h.ng, h.nb⟩
theorem uput (kind n : Int) (hl : l.length + 3 ≤ 1099511627776) (h : Un w0 B g w l a c) : Calls Tryd.prog 64 #[.pointer (some ⟨g, 0, none⟩), .int .i64 kind, .int .i64 n] w fun r w' => r = .returned (.tuple #[]) ∧ Un w0 B g w' (putN l a c kind n).1 (putN l a c kind n).2.1 (putN l a c kind n).2.2 :=
  (put_calls B g l a c kind n w h.wr hl).mono fun _ _ ⟨e, k, m⟩ => ⟨e, k, Ap.then h.bw m h.ng h.nb, h.ng, h.nb⟩
/-- The rounds of Undo. -/
def undoN : List S127 → List S127 → Int → Int → Option (List S127 × Int × Int)
  | [], l, a, c => some (l, a, c)
  | s :: r, l, a, c => if l.length + 3 ≤ 1099511627776 then
      if s.f0 = 0 then undoN r (putN l a c 0 s.f1).1 (putN l a c 0 s.f1).2.1 (putN l a c 0 s.f1).2.2
      else if s.f0 = 1 then undoN r (putN l a c 2 s.f1).1 (putN l a c 2 s.f1).2.1 (putN l a c 2 s.f1).2.2
      else if s.f0 = 2 then undoN r (putN l a c 1 s.f1).1 (putN l a c 1 s.f1).2.1 (putN l a c 1 s.f1).2.2
      else none
    else none
/-- What Undo answers. -/
def undoF (k : Nat) (la : List S127) : Option (List S127 × Int) :=
  (axis_Check.f k la).bind fun e1 => if e1 = 0 then
      (undoN la [] 0 0).bind fun r => if r.1.length + 3 ≤ 1099511627776 then (axis_Check.f k (r.1 ++ adds 1 r.2.1 ++ adds 2 r.2.2)).bind fun e => some (if e = 0 then r.1 ++ adds 1 r.2.1 ++ adds 2 r.2.2 else [], if e = 0 then 0 else 3) else none
    else some ([], e1)
theorem Un.new {w w4 : World} (hb : Below w.heap.size w w4) : Un w (w4.heap.size + 1) w4.heap.size (w4.alloc (.cells #[.slice none 0 0, .int .i64 0, .int .i64 0] 117)) [] 0 0 :=
  ⟨⟨none, 0, blk_new w4 _, by omega, by simp, World.ownsRow_nil _ _ _ _⟩, below_alloc hb _, hb.size, Nat.le_succ_of_le hb.size⟩
theorem at_st {A : Option Addr} {n : Nat} {la : List S127} (h : St w A n la) (i : Nat) {s : S127} {r : List S127} (hi : la.drop i = s :: r) :
    ∃ ad, A = some ad ∧ w.cell? (ad.add (i * 2)) = some (.int .i64 s.f0) ∧ w.cell? ⟨(ad.add (i * 2)).block, (ad.add (i * 2)).off + 1, none⟩ = some (.int .i64 s.f1) ∧ (i : Int) < (la.length : Int) ∧ la.drop (i + 1) = r := by
  have hlt : i < la.length := by
    rcases Nat.lt_or_ge i la.length with h | h
    · exact h
    · rw [List.drop_eq_nil_of_le h] at hi; cases hi
  obtain ⟨ad, e, h0, h1⟩ := at_T127 h.1 (i : Int) (Int.natCast_nonneg _) (by omega)
  have hs : rd_T127 la (i : Int) = s := by
    unfold rd_T127
    rw [List.drop_eq_getElem_cons hlt] at hi
    simp only [List.cons.injEq] at hi
    simp [hlt, hi.1]
  rw [hs] at h0 h1
  simp only [Int.toNat_natCast] at h0 h1
  refine ⟨ad, e, h0, h1, by omega, ?_⟩
  rw [List.drop_eq_getElem_cons hlt] at hi
  exact (List.cons.inj hi).2
set_option maxHeartbeats 4000000 in
set_option maxRecDepth 100000 in
theorem undo_calls (k : Nat) (A1 : Option Addr) (c1 : Nat) (la r : List S127) (e : Int) (w : World) (hGl : Gl w) (sa : St w A1 c1 la) (h : undoF k la = some (r, e)) :
    Calls Tryd.prog 28 #[.slice A1 la.length c1] w fun x w' => ∃ A c, x = .returned (.tuple #[.slice A r.length c, .int .i64 e]) ∧ St w' A c r ∧ Below w.heap.size w w' := by
  have SA := Aside0.mk sa
  have HB := Aside0.mk (Below.refl w.heap.size w)
  have hbig : la.length ≤ 9223372036854775807 := sa.1.2.1
  clear sa
  obtain ⟨e1, g1, h⟩ := Option.bind_eq_some_iff.1 h
  have G1 := Aside0.mk g1
  clear g1
  by_cases z1 : e1 = 0
  case neg =>
    rw [if_neg z1] at h
    obtain ⟨rfl, rfl⟩ := Prod.mk.inj (Option.some.inj h)
    clear h
    go_enter Tryd.func28, Tryd.ntmps28
    go_wp2_with (first
    | (go_at_call 61; (with_reducible refine (axis_Check.calls k A1 c1 la _ _ (SA.out.up (bl HB.out)).reads SA.out.len (gl_below hGl (bl HB.out)) G1.out).mono ?_); rintro _ w1 ⟨rfl, hb⟩; have HB_ := Aside0.mk (below_step (bl HB.out) hb); clear HB hb; have HB := HB_; clear HB_))
    go_ret2
    exact ⟨none, 0, rfl, St.nil _, bl HB.out⟩
  subst z1
  rw [if_pos rfl] at h
  obtain ⟨⟨l9, a9, c9⟩, g5, h⟩ := Option.bind_eq_some_iff.1 h
  dsimp only at h
  split at h
  case isFalse => cases h
  rename_i hl9
  obtain ⟨e9, g6, h⟩ := Option.bind_eq_some_iff.1 h
  obtain ⟨hr, he⟩ := Prod.mk.inj (Option.some.inj h)
  have HR := Aside0.mk hr
  have HE := Aside0.mk he
  clear h hr he
  have G5 := Aside0.mk g5
  have G6 := Aside0.mk g6
  clear g5 g6
  go_enter Tryd.func28, Tryd.ntmps28
  go_wp2_with (first
    | (go_at_call 61; (with_reducible refine (axis_Check.calls k A1 c1 la _ _ (SA.out.up (bl HB.out)).reads SA.out.len (gl_below hGl (bl HB.out)) G1.out).mono ?_); rintro _ w4 ⟨rfl, hb⟩; have HB_ := Aside0.mk (below_step (bl HB.out) hb); clear HB hb; have HB := HB_; clear HB_))
  go_loopg [15] la.length (fun kq v15 w' => ∃ (i : Nat) (l : List S127) (a c : Int), v15 = .int .i64 (i : Int) ∧ i + kq = la.length ∧ Aside0 (undoN (la.drop i) l a c = some (l9, a9, c9)) ∧ Aside0 (Un w (w4.heap.size + 1) w4.heap.size w' l a c))
  case atStart => exact ⟨0, [], 0, 0, rfl, by simp, G5, ⟨Un.new HB.out⟩⟩
  case round =>
    clear G5
    obtain ⟨i, l, a, c, rfl, hk, HA, S⟩ := hrel
    have h := HA.out
    clear HA
    cases hd : la.drop i with
    | nil =>
      have hi : la.length ≤ i := List.drop_eq_nil_iff.1 hd
      obtain rfl : i = la.length := by omega
      rw [hd] at h
      obtain ⟨rfl, rfl, rfl⟩ : l = l9 ∧ a = a9 ∧ c = c9 := by simpa [undoN] using h
      clear h hd hi
      go_wp2_with (first
        | (go_at_call 67; (with_reducible refine (done_calls k _ _ l a c e9 w _ hGl (S.out.up climb).bw (S.out.up climb).ng (S.out.up climb).nb (S.out.up climb).wr (by omega) G6.out).mono ?_); rintro _ wz ⟨A9, cap9, hx9, hs9, ha9⟩; rw [HR.out, HE.out] at hx9; rw [HR.out] at hs9; subst hx9; have S9 := Aside0.mk hs9; have HE9 := Aside0.mk (Ap.then (S.out.up climb).bw ha9 (S.out.up climb).ng (S.out.up climb).nb); clear hs9 ha9))
      go_ret2
      exact ⟨A9, cap9, rfl, S9.out.up climb, bl HE9.out⟩
    | cons s r' =>
      rw [hd] at h
      obtain ⟨ad, rfl, m0, m1, hlt, hd1⟩ := at_st (SA.out.up (S.out.up climb).bw) i hd
      unfold undoN at h
      split at h
      case isFalse => cases h
      rename_i hl
      have i0 : (0 : Int) ≤ (i : Int) := Int.natCast_nonneg _
      have hw : IntKind.i64.wrap ((i : Int) + 1) = ((i + 1 : Nat) : Int) := by rw [show ((i : Int) + 1) = ((i + 1 : Nat) : Int) from by omega]; exact IntWalk.i64_in _ (by omega)
      have HD1 := Aside0.mk hd1
      clear hd hd1
      have hgk : ∃ gk1, gk = gk1 + 1 := ⟨gk - 1, by omega⟩
      obtain ⟨gk1, rfl⟩ := hgk
      by_cases h0 : s.f0 = 0
      case pos =>
        rw [if_pos h0] at h
        have H' := Aside0.mk h
        clear h
        go_wp2_with (fail)
        go_region_with ((go_at_call 64; (with_reducible refine (uput _ _ hl (S.out.up climb)).mono ?_); rintro _ wz ⟨rfl, h_⟩; have S_ := Aside0.mk h_; clear S h_; have S := S_; clear S_))
        all_goals
          go_wp2
          go_roundg gk1
          case measure => omega
          case rel => exact ⟨i + 1, _, _, _, rfl, by omega, by rw [HD1.out]; exact H', ⟨S.out.up climb⟩⟩
      case neg =>
        rw [if_neg h0] at h
        clear h0
        by_cases h0 : s.f0 = 1
        case pos =>
          rw [if_pos h0] at h
          have H' := Aside0.mk h
          clear h
          go_wp2_with (fail)
          go_region_with ((go_at_call 64; (with_reducible refine (uput _ _ hl (S.out.up climb)).mono ?_); rintro _ wz ⟨rfl, h_⟩; have S_ := Aside0.mk h_; clear S h_; have S := S_; clear S_))
          all_goals
            go_wp2
            go_roundg gk1
            case measure => omega
            case rel => exact ⟨i + 1, _, _, _, rfl, by omega, by rw [HD1.out]; exact H', ⟨S.out.up climb⟩⟩
        case neg =>
          rw [if_neg h0] at h
          clear h0
          split at h
          case isFalse => cases h
          rename_i h0
          have H' := Aside0.mk h
          clear h
          go_wp2_with (fail)
          go_region_with ((go_at_call 64; (with_reducible refine (uput _ _ hl (S.out.up climb)).mono ?_); rintro _ wz ⟨rfl, h_⟩; have S_ := Aside0.mk h_; clear S h_; have S := S_; clear S_))
          all_goals
            go_wp2
            go_roundg gk1
            case measure => omega
            case rel => exact ⟨i + 1, _, _, _, rfl, by omega, by rw [HD1.out]; exact H', ⟨S.out.up climb⟩⟩
end Go.Proofs.YtefhcgnamfnkbaaDoor.Pr
