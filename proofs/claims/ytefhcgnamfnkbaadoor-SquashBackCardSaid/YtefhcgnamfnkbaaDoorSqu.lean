/- squash.unpacked, walked by hand. -/
import Derived.Test.YtefhcgnamfnkbaaDoorSqb
import Derived.Test.YtefhcgnamfnkbaaDoorSqd
import Derived.Laws.BytesArg
import Derived.Lib.BufferRead
namespace Go.Proofs.YtefhcgnamfnkbaaDoor.Pr
open Go.RowKit Go.Proofs.YtefhcgnamfnkbaaDoorW.PrintWords Go.Proofs.YtefhcgnamfnkbaaDoorW.PrintLast Go.Proofs.YtefhcgnamfnkbaaDoorW.PrintMore
set_option linter.unusedVariables false
set_option linter.unusedSimpArgs false

theorem byte_info : (Tryd.prog.info? 5).map (fun i => (i.zero, i.size, i.bytes)) = some (some (.int .u8 0), 1, 1) := by kernel_rfl
def ub (ys : List Int) : List Value := ys.map (Value.int .u8)
theorem ub_app (ys : List Int) (v : Int) : ub ys ++ [.int .u8 v] = ub (ys ++ [v]) := by simp [ub]
theorem bytes_run {w : World} {B L cap : Nat} {A : Option Addr} {ys : List Int} (h : w.ownsRow B 5 1 (.slice A L cap) L (ub ys)) : (convert 29 9 (.slice A L cap)).run Tryd.prog w = .ok (.string (strOfNums ys)) w := by
  have hl : ys.length = L := by have := h.1; simp [ub] at this; omega
  rcases Nat.eq_zero_or_pos L with h0 | h0
  · rcases h.2 with ⟨hv, _⟩ | ⟨g, cap', cur, hv, _⟩
    · simp only [Value.slice.injEq] at hv
      obtain ⟨rfl, _, rfl⟩ := hv
      subst h0
      obtain rfl : ys = [] := List.eq_nil_of_length_eq_zero hl
      exact run_convert_bytes_nil w 29 5 Tryd.underlying29 Tryd.underlying5 0 0 9 Tryd.underlying9
    · simp only [Value.slice.injEq] at hv
      obtain ⟨rfl, _, rfl⟩ := hv
      exact run_convert_bytes_arg w 29 5 Tryd.underlying29 Tryd.underlying5 g 0 L cap ys hl (fun i hi => by omega) 9 Tryd.underlying9
  · obtain ⟨g, cap', hv, _, hlt⟩ := h.form h0
    simp only [Value.slice.injEq] at hv
    obtain ⟨rfl, _, rfl⟩ := hv
    refine run_convert_bytes_arg w 29 5 Tryd.underlying29 Tryd.underlying5 g 0 L cap ys hl (fun i hi => ?_) 9 Tryd.underlying9
    have hx : (ub ys)[i]? = some (.int .u8 (ys.getD i 0)) := by
      simp [ub, List.getElem?_eq_getElem (show i < ys.length by omega)]
    have := h.cells (g := g) rfl i _ hx
    have e1 : (⟨g, 0, none⟩ : Addr).add i = ⟨g, 0 + i, none⟩ := by unfold Addr.add; by_cases h0 : i = 0 <;> simp [h0]
    rw [e1] at this
    exact this
theorem strOf_size (ys : List Int) : (strOfNums ys).size = ys.length := by simp [strOfNums, ByteArray.size]
/-- The string that is being unpacked: the reader at q, L bytes of the call's own. -/
structure Uk (w0 w : World) (q : Nat) (s : ByteArray) (j : Int) (A : Option Addr) (L cap : Nat) : Prop where
  br : Br w q s j
  own : ∃ ys, w.ownsRow w0.heap.size 5 1 (.slice A L cap) L (ub ys)
  ap : Ap w0.heap.size q w0 w
  lt : q < w0.heap.size
variable {w0 w w' : World} {q : Nat} {s : ByteArray} {j : Int} {A : Option Addr} {L cap : Nat}
theorem Uk.up (h : Uk w0 w q s j A L cap) (k : Below w.heap.size w w') : Uk w0 w' q s j A L cap := by
  obtain ⟨ys, ho⟩ := h.own
  exact ⟨h.br.up k, ⟨ys, own_move ho (fun i hi => k.block i (own_lt ho i hi))⟩, h.ap.climb k, h.lt⟩
theorem Uk.call (h : Uk w0 w q s j A L cap) {j' : Int} (b : Br w' q s j') (k : Ap w.heap.size q w w') : Uk w0 w' q s j' A L cap := by
  obtain ⟨ys, ho⟩ := h.own
  exact ⟨b, ⟨ys, own_move ho (fun i hi => k.block i (own_lt ho i hi) (by have := own_base ho i hi; have := h.lt; omega))⟩, h.ap.seq k, h.lt⟩
theorem Uk.stored (h : Uk w0 w q s j A L cap) {ys : List Int} {w2 w1 : World} {gg cap1 : Nat} {v : Int} (ho : w.ownsRow w0.heap.size 5 1 (.slice A L cap) L (ub ys)) (hb : Below w.heap.size w w2) (hg : w2.grownBy w1 (Value.slice A L cap).ownBlock)
    (hw : w1.ownsRow w0.heap.size 5 1 (.slice (some ⟨gg, 0, none⟩) (L + 1) cap1) (L + 1) (ub ys ++ [.int .u8 v])) : Uk w0 w1 q s j (some ⟨gg, 0, none⟩) (L + 1) cap1 := by
  have hn : ∀ i, (Value.slice A L cap).ownBlock = some i → w0.heap.size ≤ i := own_base ho
  have hsz := h.ap.size
  have hsz2 := hb.size
  have hlt := h.lt
  have hkeep : ∀ i, i < w0.heap.size → w1.heap[i]? = w.heap[i]? := fun i hi => by
    rw [hg.block i (by omega) (fun e => by have := hn i e.symm; omega), hb.block i (by omega)]
  refine ⟨⟨(hkeep q hlt).trans h.br.box, h.br.lo, h.br.hi, h.br.sz⟩, ⟨ys ++ [v], by rw [← ub_app]; exact hw⟩, ⟨hg.os.trans (hb.os.trans h.ap.os), hg.tape.trans (hb.tape.trans h.ap.tape), hg.output.trans (hb.output.trans h.ap.output), Nat.le_trans hsz (Nat.le_trans hsz2 hg.size), fun i hi hiq => ?_⟩, hlt⟩
  rw [hkeep i hi, h.ap.block i hi hiq]
theorem Gb.ap (h : Gb w) (k : Ap w.heap.size q w w') (hq : q ≠ 0) : Gb w' := fun i b e => cell_kept (h i b e) k (by show 0 ≠ q; omega)
/-- A byte of what is unpacked. -/
theorem Uk.at_ (h : Uk w0 w q s j A L cap) {i : Nat} (hi : i < L) : ∃ g v, A = some ⟨g, 0, none⟩ ∧ w.cell? ⟨g, i, none⟩ = some (.int .u8 v) := by
  obtain ⟨ys, ho⟩ := h.own
  have hl : ys.length = L := by have := ho.1; simp [ub] at this; omega
  obtain ⟨g, cap', hv, _, hlt⟩ := ho.form (by omega)
  simp only [Value.slice.injEq] at hv
  obtain ⟨rfl, _, rfl⟩ := hv
  have hx : (ub ys)[i]? = some (.int .u8 (ys.getD i 0)) := by
    simp [ub, List.getElem?_eq_getElem (show i < ys.length by omega)]
  have := ho.cells (g := g) rfl i _ hx
  have e1 : (⟨g, 0, none⟩ : Addr).add i = ⟨g, i, none⟩ := by unfold Addr.add; by_cases h0 : i = 0 <;> simp [h0]
  rw [e1] at this
  exact ⟨g, _, rfl, this⟩
theorem number15_calls (p : Nat) (s : ByteArray) (i : Int) (w : World) (h : Br w p s i) :
    Calls Tryd.prog 78 #[.pointer (some ⟨p, 0, none⟩), .int .i64 15] w fun r w' => ∃ v j, r = .returned (.int .i64 v) ∧ -1 ≤ v ∧ v < 32768 ∧ Br w' p s j ∧ Ap w.heap.size p w w' := number_calls p s i 15 w (by omega) h
set_option maxHeartbeats 8000000 in
set_option maxRecDepth 100000 in
theorem unpacked_calls (p q : Nat) (s : ByteArray) (i : Int) (f t : Nat → Int) (D : Option Addr) (dn dc : Nat) (n : Nat) (w : World) (h : Br w q s i) (d : Dr w p q f t D dn dc) (hb : Gb w) (hq : q ≠ 0) (hn : n ≤ 65535) :
    Calls Tryd.prog 33 #[.pointer (some ⟨q, 0, none⟩), .pointer (some ⟨p, 0, none⟩), .int .i64 (n : Int)] w fun r w' => ∃ (o : ByteArray) (e : Int), r = .returned (.tuple #[.string o, .int .i64 e]) ∧ ((e ≠ 0 ∧ o = ⟨#[]⟩) ∨ (e = 0 ∧ o.size = n)) ∧ Ap w.heap.size q w w' := by
  have DD := Aside0.mk d
  have HG := Aside0.mk hb
  have S0 := Aside0.mk (show Uk w w q s i none 0 0 from ⟨h, ⟨[], World.ownsRow_nil _ _ _ _⟩, Ap.refl _ _ _, blk_lt h.box⟩)
  clear h d hb
  go_enter Tryd.func33, Tryd.ntmps33
  go_wp2_with (fail)
  go_loopg [8] n (fun kq v8 w' => ∃ (L : Nat) (A : Option Addr) (cap : Nat) (j : Int), v8 = .slice A L cap ∧ L + kq = n ∧ Aside0 (Uk w w' q s j A L cap))
  case atStart => exact ⟨0, none, 0, i, rfl, by omega, S0⟩
  case round =>
    clear S0
    obtain ⟨L, A, cap, j, rfl, hk, S⟩ := hrel
    by_cases hL : L < n
    · go_upto_region 6 with (first | (go_at_call 76; (with_reducible refine (symbol_calls p q s j f t D dn dc _ S.out.br (DD.out.move S.out.ap)).mono ?_); rintro _ w1 ⟨y, e, j', rfl, hy, S', A'⟩; have S_ := Aside0.mk (S.out.call S' A'); clear S S' A'; have S := S_; clear S_))
      · go_ret2
        exact ⟨⟨#[]⟩, e, rfl, .inl ⟨by simpa using ‹(e != 0) = true›, rfl⟩, (S.out.up climb).ap⟩
      · have hy1 := hy (by simpa using ‹(e != 0) = false›)
        clear hy
        by_cases h256 : y < 256
        · obtain ⟨i0, hi0, hz0, hz1, hz2⟩ := info_parts byte_info
          obtain ⟨ys, ho⟩ := S.out.own
          have HO := Aside0.mk ho
          clear ho
          have hsz := S.out.ap.size
          go_wp2_with (first | (at_builtin; refine wpList_append_lies _ rfl _ _ _ (by rfl) w.heap.size 5 i0 _ 1 1 Tryd.underlying29 hi0 hz0 hz1 hz2 rfl (by omega) (.slice A L cap) L (ub ys) (by rfl) (HO.out.alloc _) ⟨w1.heap.size, 0, none⟩ 1 1 [.int .u8 y] (by rfl) (by rfl) (World.news_of_block (cs := #[.int .u8 y]) (t := 5) (fr := (0, 0)) (heap_alloc_new w1 _)) (by simp [Value.oneCell']) (by omega) (by simp only [maxLen]; omega) (by omega) (by simp only [World.size_alloc]; omega) (w1.heap.size + 1) (by simp) ?_; intro gg cap1 w2 hown1 hgrow hat hlt1))
          go_roundg (n - (L + 1))
          case measure => omega
          case rel => exact ⟨L + 1, _, _, j', rfl, by omega, ⟨S.out.stored HO.out climb hgrow hown1⟩⟩
        · go_upto_region 10 with (first
            | (go_at_call 77; (with_reducible refine (span_calls y _ (by omega) hy1.2 (HG.out.ap S.out.ap hq)).mono ?_); rintro _ w2 ⟨b0, x, rfl, hb0, hb1, hx0, hx1, hbel⟩; have S_ := Aside0.mk (S.out.up hbel); clear S hbel; have S := S_; clear S_; obtain ⟨xn, rfl⟩ := Int.eq_ofNat_of_zero_le hx0)
            | (go_at_call 78; (with_reducible refine (number15_calls q s _ _ S.out.br).mono ?_); rintro _ w4 ⟨v2, j4, rfl, hv2, hv3, S', A'⟩; have S_ := Aside0.mk (S.out.call S' A'); clear S S' A'; have S := S_; clear S_)
            | (go_at_call 78; (with_reducible refine (number_calls q s _ xn _ (by omega) S.out.br).mono ?_); rintro _ w3 ⟨v1, j3, rfl, hv0, hv1, S', A'⟩; have S_ := Aside0.mk (S.out.call S' A'); clear S S' A'; have S := S_; clear S_))
          by_cases c1 : v1 < 0 ∨ v2 < 0
          · rcases c1 with c1 | c1
            · go_wp2
              go_ret2
              exact ⟨⟨#[]⟩, 11, rfl, .inl ⟨by decide, rfl⟩, (S.out.up climb).ap⟩
            · by_cases c0 : v1 < 0
              · go_wp2
                go_ret2
                exact ⟨⟨#[]⟩, 11, rfl, .inl ⟨by decide, rfl⟩, (S.out.up climb).ap⟩
              · go_wp2
                go_ret2
                exact ⟨⟨#[]⟩, 11, rfl, .inl ⟨by decide, rfl⟩, (S.out.up climb).ap⟩
          · obtain ⟨c2, c3⟩ := not_or.1 c1
            clear c1
            by_cases c4 : (L : Int) - v2 - 1 < 0
            · go_wp2
              go_ret2
              exact ⟨⟨#[]⟩, 2, rfl, .inl ⟨by decide, rfl⟩, (S.out.up climb).ap⟩
            · by_cases c5 : (n : Int) - L < b0 + v1
              · go_wp2
                go_ret2
                exact ⟨⟨#[]⟩, 3, rfl, .inl ⟨by decide, rfl⟩, (S.out.up climb).ap⟩
              · go_wp2
                go_loopg [8, 71] (b0 + v1).toNat (fun kq v8 v71 w' => ∃ (e : Nat) (A : Option Addr) (cap : Nat), v8 = .slice A (L + e) cap ∧ v71 = .int .i64 (e : Int) ∧ (e : Int) + kq = b0 + v1 ∧ Aside0 (Uk w w' q s j4 A (L + e) cap))
                case atStart => exact ⟨0, A, cap, rfl, rfl, by omega, ⟨S.out.up climb⟩⟩
                case round =>
                  clear S
                  obtain ⟨e1, A1, cap1, rfl, rfl, hk1, S⟩ := hrel
                  by_cases c6 : (e1 : Int) < b0 + v1
                  · obtain ⟨g', v, rfl, cv⟩ := S.out.at_ (i := ((L : Int) - v2 - 1 + e1).toNat) (by omega)
                    have r3 : 0 ≤ (L : Int) - v2 - 1 + e1 := by omega
                    have r4 : (L : Int) - v2 - 1 + e1 < (L : Int) + e1 := by omega
                    obtain ⟨i0, hi0, hz0, hz1, hz2⟩ := info_parts byte_info
                    obtain ⟨ys, ho⟩ := S.out.own
                    have HO := Aside0.mk ho
                    clear ho
                    have hsz := S.out.ap.size
                    go_wp2_with (first | (at_builtin; refine wpList_append_lies _ rfl _ _ _ (by rfl) w.heap.size 5 i0 _ 1 1 Tryd.underlying29 hi0 hz0 hz1 hz2 rfl (by omega) (.slice (some ⟨g', 0, none⟩) (L + e1) cap1) (L + e1) (ub ys) (by rfl) (HO.out.alloc _) ⟨wr.heap.size, 0, none⟩ 1 1 [.int .u8 v] (by rfl) (by rfl) (World.news_of_block (cs := #[.int .u8 v]) (t := 5) (fr := (0, 0)) (heap_alloc_new wr _)) (by simp [Value.oneCell']) (by omega) (by simp only [maxLen]; omega) (by omega) (by simp only [World.size_alloc]; omega) (wr.heap.size + 1) (by simp) ?_; intro gg cap2 w5 hown1 hgrow hat hlt1))
                    go_roundg ((b0 + v1).toNat - (e1 + 1))
                    case measure => omega
                    case rel => exact ⟨e1 + 1, _, cap2, rfl, by go_num, by omega, ⟨S.out.stored HO.out climb hgrow hown1⟩⟩
                  · go_wp2
                    go_roundg (n - (L + e1))
                    case measure => omega
                    case rel => exact ⟨L + e1, A1, cap1, j4, rfl, by omega, S⟩
    · obtain rfl : L = n := by omega
      go_upto_region 22 with (fail)
      have SS := Aside0.mk (S.out.up (w' := _) climb)
      go_loopg [] 8 (fun kq w' => ∃ (j : Int), (8 - j % 8) % 8 ≤ (kq : Int) ∧ Aside0 (Uk w w' q s j A L cap))
      case atStart => exact ⟨j, by omega, SS⟩
      case round =>
        clear S
        obtain ⟨j, hkq, S⟩ := hrel
        have c1 := S.out.br.c1
        have c0 := S.out.br.c0
        have b0 := S.out.br.lo
        have b1 := S.out.br.hi
        have b2 := S.out.br.sz
        by_cases hj : j % 8 = 0
        · go_upto_region 25 with (fail)
          by_cases hz : j < 8 * (s.size : Int)
          · go_wp2
            repeat (go_quiet (fail); try go_wp2)
            go_ret2
            exact ⟨⟨#[]⟩, 4, rfl, .inl ⟨by decide, rfl⟩, (S.out.up climb).ap⟩
          · go_upto_region 27 with (go_quiet (fail))
            obtain ⟨ys, ho⟩ := S.out.own
            have hl : ys.length = L := by have := ho.1; simp [ub] at this; omega
            have hcv : ∀ m, (convert 29 9 (.slice A L cap)).run Tryd.prog (wr.drewN m) = .ok (.string (strOfNums ys)) (wr.drewN m) := fun m => bytes_run (own_move ho (fun _ _ => rfl))
            clear ho c0 c1
            go_wp2
            go_ret2
            exact ⟨strOfNums ys, 0, rfl, .inr ⟨rfl, by rw [strOf_size, hl]⟩, (S.out.up climb).ap⟩
        · go_wp2_with (first | (go_at_call 79; (with_reducible refine (bit_calls q s j _ S.out.br).mono ?_); rintro _ w1 ⟨b, j', rfl, hb, S', A'⟩; have S_ := Aside0.mk (S.out.call S' A'); clear S S' A'; have S := S_; clear S_))
          · go_ret2
            exact ⟨⟨#[]⟩, 4, rfl, .inl ⟨by decide, rfl⟩, (S.out.up climb).ap⟩
          · have hb0 : b = 0 := by simpa using ‹(b != 0) = false›
            go_roundg ((8 - (j + 1) % 8) % 8).toNat
            case measure => omega
            case rel => exact ⟨j', by omega, S⟩
end Go.Proofs.YtefhcgnamfnkbaaDoor.Pr
