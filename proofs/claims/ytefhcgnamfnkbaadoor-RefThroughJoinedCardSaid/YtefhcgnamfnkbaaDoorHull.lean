/- cellref.hull and its closure, walked by hand. -/
import Derived.Test.YtefhcgnamfnkbaaDoorUndo
import Derived.Deep.LoopGhost
namespace Go.Proofs.YtefhcgnamfnkbaaDoor.Pr
open Go.RowKit Go.Proofs.YtefhcgnamfnkbaaDoorW.PrintWords Go.Proofs.YtefhcgnamfnkbaaDoorW.PrintLast Go.Proofs.YtefhcgnamfnkbaaDoorW.PrintMore

/-- What the boxes of hull hold. -/
structure Hu (w0 w : World) (b : Nat) (low high first last : Int) (found : Bool) (old now : Int) : Prop where
  low : w.heap[b]? = some (.cells #[.int .i64 low] 3 (0, 0))
  high : w.heap[b + 1]? = some (.cells #[.int .i64 high] 3 (0, 0))
  first : w.heap[b + 2]? = some (.cells #[.int .i64 first] 3 (0, 0))
  last : w.heap[b + 3]? = some (.cells #[.int .i64 last] 3 (0, 0))
  found : w.heap[b + 4]? = some (.cells #[.bool found] 4 (0, 0))
  old : w.heap[b + 5]? = some (.cells #[.int .i64 old] 3 (0, 0))
  now : w.heap[b + 6]? = some (.cells #[.int .i64 now] 3 (0, 0))
  bw : Below w0.heap.size w0 w
  nb : w0.heap.size ≤ b
variable {w0 w w' : World} {b : Nat} {low high first last old now : Int} {found : Bool}
theorem Hu.up (h : Hu w0 w b low high first last found old now) (k : Below w.heap.size w w') : Hu w0 w' b low high first last found old now :=
  ⟨blk_below h.low k, blk_below h.high k, blk_below h.first k, blk_below h.last k, blk_below h.found k, blk_below h.old k, blk_below h.now k, below_step h.bw k, h.nb⟩
/-- Outside the boxes nothing has changed. -/
structure Off (b : Nat) (w w' : World) : Prop where
  block : ∀ k, k < w.heap.size → b + 7 ≤ k → w'.heap[k]? = w.heap[k]?
theorem Off.refl (w : World) : Off b w w := ⟨fun _ _ _ => rfl⟩
theorem Off.drew (h : Off b w w') (n : Nat) : Off b w (w'.drewN n) := ⟨fun k h1 h2 => ((pw_below_drewN (Below.refl (k + 1) w') n).block k (Nat.lt_succ_self k)).trans (h.block k h1 h2)⟩
theorem Off.set (h : Off b w w') (i : Nat) (hi : i < 7) (v : Value) : Off b w (w'.setCell ⟨b + i, 0, none⟩ v) := ⟨fun k h1 h2 => (Below.heap_setCell w' ⟨b + i, 0, none⟩ v k (by show k ≠ b + i; omega)).trans (h.block k h1 h2)⟩
theorem Hu.size (h : Hu w0 w b low high first last found old now) : b + 7 ≤ w.heap.size := blk_lt h.now
theorem Hu.c2 (h : Hu w0 w b low high first last found old now) : w.cell? ⟨b + 2, 0, none⟩ = some (.int .i64 first) := (blk_cell h.first 0).trans rfl
theorem Hu.c3 (h : Hu w0 w b low high first last found old now) : w.cell? ⟨b + 3, 0, none⟩ = some (.int .i64 last) := (blk_cell h.last 0).trans rfl
theorem Hu.c4 (h : Hu w0 w b low high first last found old now) : w.cell? ⟨b + 4, 0, none⟩ = some (.bool found) := (blk_cell h.found 0).trans rfl
theorem Hu.c5 (h : Hu w0 w b low high first last found old now) : w.cell? ⟨b + 5, 0, none⟩ = some (.int .i64 old) := (blk_cell h.old 0).trans rfl
theorem Hu.c6 (h : Hu w0 w b low high first last found old now) : w.cell? ⟨b + 6, 0, none⟩ = some (.int .i64 now) := (blk_cell h.now 0).trans rfl
/-- The row of one part. -/
def keepN (low high first last : Int) (found : Bool) (old now n : Int) : Int × Int × Bool :=
  if max low old ≤ min high (wrap64 (wrap64 (old + n) - 1)) then
    (if found = true then first else wrap64 (wrap64 (now + max low old) - old), wrap64 (wrap64 (now + min high (wrap64 (wrap64 (old + n) - 1))) - old), true)
  else (first, last, found)
theorem new_at (w : World) (o : Obj) {g : Nat} (h : g = w.heap.size) : (w.alloc o).heap[g]? = some o := h ▸ blk_new w o
theorem setB {w : World} {g : Nat} {x u : Value} {t : TypeId} (h : w.heap[g]? = some (.cells #[x] t (0, 0))) : (w.setCell ⟨g, 0, none⟩ u).heap[g]? = some (.cells #[u] t (0, 0)) := blk_put h 0 u rfl
theorem Hu.setLast (h : Hu w0 w b low high first last found old now) (v : Int) : Hu w0 (w.setCell ⟨b + 3, 0, none⟩ (.int .i64 v)) b low high first v found old now :=
  ⟨blk_far h.low (by show b ≠ b + 3; omega) _, blk_far h.high (by show b + 1 ≠ b + 3; omega) _, blk_far h.first (by show b + 2 ≠ b + 3; omega) _, setB h.last, blk_far h.found (by show b + 4 ≠ b + 3; omega) _, blk_far h.old (by show b + 5 ≠ b + 3; omega) _, blk_far h.now (by show b + 6 ≠ b + 3; omega) _, below_set h.bw (by have := h.nb; omega), h.nb⟩
theorem Hu.setFirst (h : Hu w0 w b low high first last found old now) (v : Int) : Hu w0 (w.setCell ⟨b + 2, 0, none⟩ (.int .i64 v)) b low high v last found old now :=
  ⟨blk_far h.low (by show b ≠ b + 2; omega) _, blk_far h.high (by show b + 1 ≠ b + 2; omega) _, setB h.first, blk_far h.last (by show b + 3 ≠ b + 2; omega) _, blk_far h.found (by show b + 4 ≠ b + 2; omega) _, blk_far h.old (by show b + 5 ≠ b + 2; omega) _, blk_far h.now (by show b + 6 ≠ b + 2; omega) _, below_set h.bw (by have := h.nb; omega), h.nb⟩
theorem Hu.setFound (h : Hu w0 w b low high first last found old now) (v : Bool) : Hu w0 (w.setCell ⟨b + 4, 0, none⟩ (.bool v)) b low high first last v old now :=
  ⟨blk_far h.low (by show b ≠ b + 4; omega) _, blk_far h.high (by show b + 1 ≠ b + 4; omega) _, blk_far h.first (by show b + 2 ≠ b + 4; omega) _, blk_far h.last (by show b + 3 ≠ b + 4; omega) _, setB h.found, blk_far h.old (by show b + 5 ≠ b + 4; omega) _, blk_far h.now (by show b + 6 ≠ b + 4; omega) _, below_set h.bw (by have := h.nb; omega), h.nb⟩
theorem Hu.setOld (h : Hu w0 w b low high first last found old now) (v : Int) : Hu w0 (w.setCell ⟨b + 5, 0, none⟩ (.int .i64 v)) b low high first last found v now :=
  ⟨blk_far h.low (by show b ≠ b + 5; omega) _, blk_far h.high (by show b + 1 ≠ b + 5; omega) _, blk_far h.first (by show b + 2 ≠ b + 5; omega) _, blk_far h.last (by show b + 3 ≠ b + 5; omega) _, blk_far h.found (by show b + 4 ≠ b + 5; omega) _, setB h.old, blk_far h.now (by show b + 6 ≠ b + 5; omega) _, below_set h.bw (by have := h.nb; omega), h.nb⟩
theorem Hu.setNow (h : Hu w0 w b low high first last found old now) (v : Int) : Hu w0 (w.setCell ⟨b + 6, 0, none⟩ (.int .i64 v)) b low high first last found old v :=
  ⟨blk_far h.low (by show b ≠ b + 6; omega) _, blk_far h.high (by show b + 1 ≠ b + 6; omega) _, blk_far h.first (by show b + 2 ≠ b + 6; omega) _, blk_far h.last (by show b + 3 ≠ b + 6; omega) _, blk_far h.found (by show b + 4 ≠ b + 6; omega) _, blk_far h.old (by show b + 5 ≠ b + 6; omega) _, setB h.now, below_set h.bw (by have := h.nb; omega), h.nb⟩
set_option maxHeartbeats 2000000 in
set_option maxRecDepth 100000 in
theorem keep_calls (n : Int) (h : Hu w0 w b low high first last found old now) :
    Calls Tryd.prog 108 #[.int .i64 n, .pointer (some ⟨b, 0, none⟩), .pointer (some ⟨b + 5, 0, none⟩), .pointer (some ⟨b + 1, 0, none⟩), .pointer (some ⟨b + 4, 0, none⟩), .pointer (some ⟨b + 6, 0, none⟩), .pointer (some ⟨b + 2, 0, none⟩), .pointer (some ⟨b + 3, 0, none⟩)] w
      fun x w' => x = .returned (.tuple #[]) ∧ Hu w0 w' b low high (keepN low high first last found old now n).1 (keepN low high first last found old now n).2.1 (keepN low high first last found old now n).2.2 old now ∧ Off b w w' := by
  have S := Aside0.mk h
  have c0 : w.cell? ⟨b, 0, none⟩ = some (.int .i64 low) := (blk_cell h.low 0).trans rfl
  have c1 : w.cell? ⟨b + 1, 0, none⟩ = some (.int .i64 high) := (blk_cell h.high 0).trans rfl
  have c5 : w.cell? ⟨b + 5, 0, none⟩ = some (.int .i64 old) := (blk_cell h.old 0).trans rfl
  have c4 : w.cell? ⟨b + 4, 0, none⟩ = some (.bool found) := (blk_cell h.found 0).trans rfl
  have c6 : w.cell? ⟨b + 6, 0, none⟩ = some (.int .i64 now) := (blk_cell h.now 0).trans rfl
  have c2 : w.cell? ⟨b + 2, 0, none⟩ = some (.int .i64 first) := (blk_cell h.first 0).trans rfl
  have c3 : w.cell? ⟨b + 3, 0, none⟩ = some (.int .i64 last) := (blk_cell h.last 0).trans rfl
  have f2 := blk_frozen h.first 0
  have f3 := blk_frozen h.last 0
  have f4 := blk_frozen h.found 0
  clear h
  unfold keepN
  by_cases hm : max low old ≤ min high (wrap64 (wrap64 (old + n) - 1))
  · rw [if_pos hm]
    cases found with
    | true =>
      go_enter Tryd.func108, Tryd.ntmps108
      go_wp2
      repeat (go_quiet (fail); try go_wp2)
      go_end0
      exact ⟨rfl, (S.out.up climb).setLast _, ((Off.refl w).drew _).set 3 (by decide) _⟩
    | false =>
      go_enter Tryd.func108, Tryd.ntmps108
      go_wp2
      repeat (go_quiet (fail); try go_wp2)
      go_end0
      exact ⟨rfl, (((S.out.up climb).setFirst _).setFound true).setLast _, ((((Off.refl w).drew _).set 2 (by decide) _).set 4 (by decide) _).set 3 (by decide) _⟩
  · rw [if_neg hm]
    go_enter Tryd.func108, Tryd.ntmps108
    go_wp2
    repeat (go_quiet (fail); try go_wp2)
    go_end0
    exact ⟨rfl, S.out.up climb, (Off.refl w).drew _⟩
/-- The rounds of hull. -/
def hullN (low high : Int) : List S127 → Int → Int → Bool → Int → Int → Int × Int × Bool
  | [], f, l, b, old, now => keepN low high f l b old now 1073741824
  | s :: r, f, l, b, old, now =>
    if s.f0 = 0 then hullN low high r (keepN low high f l b old now s.f1).1 (keepN low high f l b old now s.f1).2.1 (keepN low high f l b old now s.f1).2.2 (wrap64 (old + s.f1)) (wrap64 (now + s.f1))
    else if s.f0 = 1 then hullN low high r f l b old (wrap64 (now + s.f1))
    else if s.f0 = 2 then hullN low high r f l b (wrap64 (old + s.f1)) now
    else hullN low high r f l b (wrap64 (old + s.f1)) (wrap64 (now + s.f1))
theorem Hu.new (w : World) (low high : Int) : Hu w (((((((w.alloc (.cells #[.int .i64 low] 3)).alloc (.cells #[.int .i64 high] 3)).alloc (.cells #[.int .i64 0] 3)).alloc (.cells #[.int .i64 0] 3)).alloc (.cells #[.bool false] 4)).alloc (.cells #[.int .i64 0] 3)).alloc (.cells #[.int .i64 0] 3)) w.heap.size low high 0 0 false 0 0 := by
  refine ⟨blk_alloc (blk_alloc (blk_alloc (blk_alloc (blk_alloc (blk_alloc (blk_new _ _) _) _) _) _) _) _, blk_alloc (blk_alloc (blk_alloc (blk_alloc (blk_alloc (new_at _ _ (by simp only [World.size_alloc])) _) _) _) _) _, blk_alloc (blk_alloc (blk_alloc (blk_alloc (new_at _ _ (by simp only [World.size_alloc])) _) _) _) _, blk_alloc (blk_alloc (blk_alloc (new_at _ _ (by simp only [World.size_alloc])) _) _) _, blk_alloc (blk_alloc (new_at _ _ (by simp only [World.size_alloc])) _) _, blk_alloc (new_at _ _ (by simp only [World.size_alloc])) _, new_at _ _ (by simp only [World.size_alloc]), climb, Nat.le_refl _⟩
set_option maxHeartbeats 4000000 in
set_option maxRecDepth 100000 in
theorem hull_calls (A1 : Option Addr) (c1 : Nat) (la : List S127) (low high : Int) (w : World) (sa : St w A1 c1 la) :
    Calls Tryd.prog 68 #[.slice A1 la.length c1, .int .i64 low, .int .i64 high] w fun x w' => x = .returned (.tuple #[.int .i64 (hullN low high la 0 0 false 0 0).1, .int .i64 (hullN low high la 0 0 false 0 0).2.1, .bool (hullN low high la 0 0 false 0 0).2.2]) ∧ Below w.heap.size w w' := by
  have SA := Aside0.mk sa
  have hbig : la.length ≤ 9223372036854775807 := sa.1.2.1
  clear sa
  have hmf : ∀ (fn : Fn) (first cap : Array Value) (w : World), (Instr.makeFunc fn first cap).run Tryd.prog w = .ok (.func fn first cap) w := fun _ _ _ _ => rfl
  obtain ⟨f9, l9, b9, h9⟩ : ∃ f9 l9 b9, hullN low high la 0 0 false 0 0 = (f9, l9, b9) := ⟨_, _, _, rfl⟩
  rw [h9]
  have G5 := Aside0.mk h9
  clear h9
  go_enter Tryd.func68, Tryd.ntmps68
  go_wp2_with (fail)
  go_loopg [20] la.length (fun kq v20 w' => ∃ (i : Nat) (f l : Int) (fd : Bool) (old now : Int), v20 = .int .i64 (i : Int) ∧ i + kq = la.length ∧ Aside0 (hullN low high (la.drop i) f l fd old now = (f9, l9, b9)) ∧ Aside0 (Hu w w' w.heap.size low high f l fd old now))
  case atStart => exact ⟨0, 0, 0, false, 0, 0, rfl, by simp, G5, ⟨Hu.new w low high⟩⟩
  case round =>
    clear G5
    obtain ⟨i, f, l, fd, old, now, rfl, hk, HA, S⟩ := hrel
    have h := HA.out
    clear HA
    cases hd : la.drop i with
    | nil =>
      have hi : la.length ≤ i := List.drop_eq_nil_iff.1 hd
      obtain rfl : i = la.length := by omega
      rw [hd] at h
      simp only [hullN] at h
      have HH := Aside0.mk h
      clear h hd hi
      go_wp2_with (first | (go_at_call 108; (with_reducible refine (keep_calls _ (S.out.up climb)).mono ?_); rintro _ wz ⟨rfl, h_, o_⟩; have S_ := Aside0.mk h_; clear S h_ o_; have S := S_; clear S_))
      have a1 : (keepN low high f l fd old now 1073741824).1 = f9 := by rw [HH.out]
      have a2 : (keepN low high f l fd old now 1073741824).2.1 = l9 := by rw [HH.out]
      have a3 : (keepN low high f l fd old now 1073741824).2.2 = b9 := by rw [HH.out]
      rw [a1, a2, a3] at S
      have e2 := S.out.c2
      have e3 := S.out.c3
      have e4 := S.out.c4
      repeat (go_quiet (fail); try go_wp2)
      go_ret3
      exact ⟨rfl, bl S.out.bw⟩
    | cons s r' =>
      rw [hd] at h
      obtain ⟨ad, rfl, m0, m1, hlt, hd1⟩ := at_st (SA.out.up S.out.bw) i hd
      unfold hullN at h
      have i0 : (0 : Int) ≤ (i : Int) := Int.natCast_nonneg _
      have hw : IntKind.i64.wrap ((i : Int) + 1) = ((i + 1 : Nat) : Int) := by rw [show ((i : Int) + 1) = ((i + 1 : Nat) : Int) from by omega]; exact IntWalk.i64_in _ (by omega)
      have HD1 := Aside0.mk hd1
      have hgk : ∃ gk1, gk = gk1 + 1 := ⟨gk - 1, by omega⟩
      obtain ⟨gk1, rfl⟩ := hgk
      clear hd hd1
      have hsz := S.out.size
      have e5 := S.out.c5
      have e6 := S.out.c6
      have f5 := blk_frozen S.out.old 0
      have f6 := blk_frozen S.out.now 0
      have z5 := blk_lt S.out.old
      have z6 := blk_lt S.out.now
      have n6 : ¬ wr.heap.size = w.heap.size + 1 + 1 + 1 + 1 + 1 + 1 := by omega
      have n5 : ¬ wr.heap.size = w.heap.size + 1 + 1 + 1 + 1 + 1 := by omega
      by_cases h0 : s.f0 = 0
      case pos =>
        rw [if_pos h0] at h
        have H' := Aside0.mk h
        clear h
        go_wp2_with (first | (go_at_call 108; (with_reducible refine (keep_calls _ (S.out.up climb)).mono ?_); rintro _ wz ⟨rfl, h_, o_⟩; have S_ := Aside0.mk h_; have T_ := Aside0.mk ((o_.block wr.heap.size (by simp) hsz).trans (blk_new wr _)); have d0 := (blk_cell T_.out 0).trans rfl; have d1 := (blk_cell T_.out 1).trans rfl; clear S h_ o_ e5 e6 f5 f6 z5 z6 m0 m1; have S := S_; clear S_; have e5 := S.out.c5; have e6 := S.out.c6; have f5 := blk_frozen S.out.old 0; have f6 := blk_frozen S.out.now 0; have z5 := blk_lt S.out.old; have z6 := blk_lt S.out.now))
        go_roundg gk1
        case measure => omega
        case rel => exact ⟨i + 1, _, _, _, _, _, rfl, by omega, by rw [HD1.out]; exact H', ⟨(S.out.setNow _).setOld _⟩⟩
      case neg =>
        rw [if_neg h0] at h
        by_cases h1 : s.f0 = 1
        case pos =>
          rw [if_pos h1] at h
          clear h0
          have H' := Aside0.mk h
          clear h
          go_wp2_with (first | (go_at_call 108; (with_reducible refine (keep_calls _ (S.out.up climb)).mono ?_); rintro _ wz ⟨rfl, h_, o_⟩; have S_ := Aside0.mk h_; have T_ := Aside0.mk ((o_.block wr.heap.size (by simp) hsz).trans (blk_new wr _)); have d0 := (blk_cell T_.out 0).trans rfl; have d1 := (blk_cell T_.out 1).trans rfl; clear S h_ o_ e5 e6 f5 f6 z5 z6 m0 m1; have S := S_; clear S_; have e5 := S.out.c5; have e6 := S.out.c6; have f5 := blk_frozen S.out.old 0; have f6 := blk_frozen S.out.now 0; have z5 := blk_lt S.out.old; have z6 := blk_lt S.out.now))
          go_roundg gk1
          case measure => omega
          case rel => exact ⟨i + 1, _, _, _, _, _, rfl, by omega, by rw [HD1.out]; exact H', ⟨(S.out.setNow _).up climb⟩⟩
        case neg =>
          rw [if_neg h1] at h
          by_cases h2 : s.f0 = 2
          case pos =>
            rw [if_pos h2] at h
            clear h0 h1
            have H' := Aside0.mk h
            clear h
            go_wp2_with (first | (go_at_call 108; (with_reducible refine (keep_calls _ (S.out.up climb)).mono ?_); rintro _ wz ⟨rfl, h_, o_⟩; have S_ := Aside0.mk h_; have T_ := Aside0.mk ((o_.block wr.heap.size (by simp) hsz).trans (blk_new wr _)); have d0 := (blk_cell T_.out 0).trans rfl; have d1 := (blk_cell T_.out 1).trans rfl; clear S h_ o_ e5 e6 f5 f6 z5 z6 m0 m1; have S := S_; clear S_; have e5 := S.out.c5; have e6 := S.out.c6; have f5 := blk_frozen S.out.old 0; have f6 := blk_frozen S.out.now 0; have z5 := blk_lt S.out.old; have z6 := blk_lt S.out.now))
            go_roundg gk1
            case measure => omega
            case rel => exact ⟨i + 1, _, _, _, _, _, rfl, by omega, by rw [HD1.out]; exact H', ⟨(S.out.setOld _).up climb⟩⟩
          case neg =>
            rw [if_neg h2] at h
            have H' := Aside0.mk h
            clear h
            go_wp2_with (first | (go_at_call 108; (with_reducible refine (keep_calls _ (S.out.up climb)).mono ?_); rintro _ wz ⟨rfl, h_, o_⟩; have S_ := Aside0.mk h_; have T_ := Aside0.mk ((o_.block wr.heap.size (by simp) hsz).trans (blk_new wr _)); have d0 := (blk_cell T_.out 0).trans rfl; have d1 := (blk_cell T_.out 1).trans rfl; clear S h_ o_ e5 e6 f5 f6 z5 z6 m0 m1; have S := S_; clear S_; have e5 := S.out.c5; have e6 := S.out.c6; have f5 := blk_frozen S.out.old 0; have f6 := blk_frozen S.out.now 0; have z5 := blk_lt S.out.old; have z6 := blk_lt S.out.now))
            go_roundg gk1
            case measure => omega
            case rel => exact ⟨i + 1, _, _, _, _, _, rfl, by omega, by rw [HD1.out]; exact H', ⟨((S.out.setNow _).setOld _).up climb⟩⟩
end Go.Proofs.YtefhcgnamfnkbaaDoor.Pr
