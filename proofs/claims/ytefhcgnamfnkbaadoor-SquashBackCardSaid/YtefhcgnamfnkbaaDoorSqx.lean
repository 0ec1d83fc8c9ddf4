/- squash.Unpack, walked by hand. -/
import Derived.Test.YtefhcgnamfnkbaaDoorSqu
import Derived.Lib.EndianBits
namespace Go.Proofs.YtefhcgnamfnkbaaDoor.Pr
open Go.RowKit Go.Proofs.YtefhcgnamfnkbaaDoorW.PrintWords Go.Proofs.YtefhcgnamfnkbaaDoorW.PrintLast Go.Proofs.YtefhcgnamfnkbaaDoorW.PrintMore
set_option linter.unusedVariables false
set_option linter.unusedSimpArgs false

theorem Dr.up {w w' : World} {p q : Nat} {f t : Nat → Int} {A : Option Addr} {n c : Nat} (h : Dr w p q f t A n c) (k : Below w.heap.size w w') : Dr w' p q f t A n c := h.move (Ap.ofBelow k (Nat.le_refl _))
theorem Gb.below {w w' : World} (h : Gb w) (hg : 1 ≤ w.heap.size) (k : Below w.heap.size w w') : Gb w' := fun i b e => (k.cell (p := ⟨0, i, none⟩) (by show 0 < w.heap.size; omega)).trans (h i b e)
theorem Br.new (w : World) (s : ByteArray) (h : s.size ≤ 1099511627776) : Br (w.alloc (.cells #[.string s, .int .i64 0] 76)) w.heap.size s 0 := ⟨blk_new w _, Int.le_refl 0, by omega, h⟩
theorem wraps_i64 (n : Int) (h₀ : 0 ≤ n) (h₁ : n < 2 ^ 16) : IntKind.i64.wrap n = n := by rw [IntKind.wrap_i64]; omega
theorem or_join (a b : Nat) (ha : a < 256) (hb : b < 256) : bits .or .i64 (bits .or .i64 (bits .or .i64 0 0) (wrap64 (wrap64 (a : Int) * 256))) (wrap64 (b : Int)) = ((256 * a + b : Nat) : Int) := by
  have e0 : bits .or .i64 0 0 = 0 := by decide
  have e1 : wrap64 (wrap64 (a : Int) * 256) = 256 * (a : Int) := by
    have : wrap64 (a : Int) = a := by unfold wrap64; omega
    rw [this]; unfold wrap64; omega
  have e2 : wrap64 (b : Int) = b := by unfold wrap64; omega
  rw [e0, e1, e2, bits_join .i64 16 (by decide) wraps_i64 16 0 (256 * (a : Int)) (by omega) (by omega) (by omega) (by omega) (by omega) (by omega), Int.zero_add,
    bits_join .i64 16 (by decide) wraps_i64 8 (256 * (a : Int)) b (by omega) (by omega) (by omega) (by omega) (by omega) (by omega)]
  omega
theorem or_join2 (a b : Nat) (ha : a < 256) (hb : b < 256) : bits .or .i64 (wrap64 (wrap64 (a : Int) * 256)) (wrap64 (b : Int)) = ((256 * a + b : Nat) : Int) := by
  have h := or_join a b ha hb
  have e0 : bits .or .i64 0 0 = 0 := by decide
  have e1 : wrap64 (wrap64 (a : Int) * 256) = 256 * (a : Int) := by
    have : wrap64 (a : Int) = a := by unfold wrap64; omega
    rw [this]; unfold wrap64; omega
  rw [e0, e1, bits_join .i64 16 (by decide) wraps_i64 16 0 (256 * (a : Int)) (by omega) (by omega) (by omega) (by omega) (by omega) (by omega), Int.zero_add] at h
  rw [e1, h]
set_option maxHeartbeats 8000000 in
set_option maxRecDepth 100000 in
theorem unpack_calls (s : ByteArray) (w : World) (hs : 5 ≤ s.size) (hm : s.size ≤ 1099511627776) (h0 : (s[0]'(by omega)).toNat = 0) (h1 : (s[1]'(by omega)).toNat = 0) (hb : Gb w) (hg : 1 ≤ w.heap.size) :
    Calls Tryd.prog 11 #[.string s] w fun r w' => ∃ (o : ByteArray) (e : Int), r = .returned (.tuple #[.string o, .int .i64 e]) ∧ ((e ≠ 0 ∧ o = ⟨#[]⟩) ∨ (e = 0 ∧ (o.size : Int) = 256 * (s[2]'(by omega)).toNat + (s[3]'(by omega)).toNat)) ∧ Below w.heap.size w w' := by
  have HG := Aside0.mk hb
  clear hb
  have q1 : (5 : Int) ≤ (s.size : Int) := by omega
  have q2 : (4 : Int) < (s.size : Int) := by omega
  have q3 : (3 : Int) < (s.size : Int) := by omega
  have q4 : (2 : Int) < (s.size : Int) := by omega
  have q5 : (1 : Int) < (s.size : Int) := by omega
  have q6 : (0 : Int) < (s.size : Int) := by omega
  go_enter Tryd.func11, Tryd.ntmps11
  go_upto_region 6 with (go_quiet (fail))
  rw [or_join _ _ (by have := UInt8.toNat_lt (s[2]'(by omega)); omega) (by have := UInt8.toNat_lt (s[3]'(by omega)); omega)]
  obtain ⟨n, hn⟩ : ∃ n, n = 256 * (s[2]'(by omega)).toNat + (s[3]'(by omega)).toNat := ⟨_, rfl⟩
  have hn2 : n ≤ 65535 := by have := UInt8.toNat_lt (s[2]'(by omega)); have := UInt8.toNat_lt (s[3]'(by omega)); omega
  rw [← hn]
  obtain ⟨T, hT⟩ : ∃ T, T = s.extract 5 s.size := ⟨_, rfl⟩
  have hTs : T.size = s.size - 5 := by rw [hT]; simp
  rw [← hT]
  obtain ⟨M, hM⟩ : ∃ M : Int, M = ((s[4]'(by omega)).toNat : Int) := ⟨_, rfl⟩
  have hM0 : 0 ≤ M := by omega
  rw [← hM]
  have HN := Aside0.mk hn
  have hTm : T.size ≤ 1099511627776 := by omega
  clear hT hM hn hTs
  by_cases m1 : M > 1
  · go_wp2
    go_ret2
    exact ⟨⟨#[]⟩, 8, rfl, .inl ⟨by decide, rfl⟩, climb⟩
  by_cases m0 : M = 0
  · subst m0
    by_cases t1 : (T.size : Int) < n
    · go_wp2
      go_ret2
      exact ⟨⟨#[]⟩, 11, rfl, .inl ⟨by decide, rfl⟩, climb⟩
    by_cases t2 : (T.size : Int) > n
    · go_wp2
      go_ret2
      exact ⟨⟨#[]⟩, 4, rfl, .inl ⟨by decide, rfl⟩, climb⟩
    have t3 : (T.size : Int) = n := by omega
    have HT := Aside0.mk t3
    clear t3
    go_wp2
    go_ret2
    exact ⟨T, 0, rfl, .inr ⟨rfl, by have := HT.out; have := HN.out; omega⟩, climb⟩
  obtain rfl : M = 1 := by omega
  by_cases t1 : (T.size : Int) < 136
  · go_wp2
    go_ret2
    exact ⟨⟨#[]⟩, 11, rfl, .inl ⟨by decide, rfl⟩, climb⟩
  have hmk : ∀ w, (Instr.makeSlice 63 (.int .i64 272) (.int .i64 272)).run Tryd.prog w = .ok (.slice (some ⟨w.heap.size, 0, none⟩) 272 272) (w.alloc (.cells (madeCells #[.int .i64 0] 272) 3)) := fun w => make_ints 272 (by omega) w
  go_wp2_with (fail)
  go_loopg [67] 272 (fun kq v67 w' => ∃ (e : Nat), v67 = .int .i64 (e : Int) ∧ e + kq = 272 ∧ Aside0 (Iv w' w.heap.size 272 (fun _ => True)) ∧ Aside0 (Below w.heap.size w w'))
  case atStart => exact ⟨0, rfl, rfl, ⟨Iv.made _ 272 trivial⟩, ⟨climb⟩⟩
  case round =>
    obtain ⟨e, rfl, hk, S, SB⟩ := hrel
    by_cases he : e < 272
    · obtain ⟨g2, hg2⟩ : ∃ g2, gk = g2 + 1 := ⟨gk - 1, by omega⟩
      have HG2 := Aside0.mk hg2
      clear hg2
      have fr := S.out.free e
      obtain ⟨vo, co, _⟩ := S.out.at_ he
      have r1 : 0 ≤ (e : Int) / 2 := by omega
      have r2 : (e : Int) / 2 < (T.size : Int) := by omega
      have r3 : 0 ≤ 4 - 4 * ((e : Int) % 2) := by omega
      go_wp2_with (fail)
      go_roundg g2
      case measure => have := HG2.out; omega
      case rel => have := HG2.out; exact ⟨e + 1, by go_num, by omega, ⟨S.out.put e trivial⟩, ⟨below_set SB.out (Nat.le_refl _)⟩⟩
    · go_upto_region 25 with (first | (go_at_call 31; (with_reducible refine (codes_calls w.heap.size _ S.out).mono ?_); rintro _ w1 ⟨q0, ok, rfl, _, hbel⟩; have S_ := Aside0.mk (S.out.up hbel); have SB_ := Aside0.mk (below_step SB.out hbel); clear S SB hbel; have S := S_; have SB := SB_; clear S_ SB_))
      · go_ret2
        exact ⟨⟨#[]⟩, 4, rfl, .inl ⟨by decide, rfl⟩, bl SB.out⟩
      · have r1 : (136 : Int) ≤ (T.size : Int) := by omega
        have hT3 : (T.extract 136 T.size).size ≤ 1099511627776 := by simp; omega
        have hqn : w1.heap.size ≠ 0 := by have := SB.out.size; omega
        (try clear h0); (try clear h1); (try clear q1); (try clear q5); (try clear q6); (try clear hM0); (try clear m0); (try clear hmk)
        have r1 : (136 : Int) ≤ (T.size : Int) := by omega
        go_cut [2, 3] (fun v2 v3 wx => ∃ (o : ByteArray) (e : Int), v2 = .string o ∧ v3 = .int .i64 e ∧ ((e ≠ 0 ∧ o = ⟨#[]⟩) ∨ (e = 0 ∧ o.size = n)) ∧ Aside0 (Below w.heap.size w wx))
        case first =>
          go_region_held3 (fun _ => True) (exact trivial) (first
            | (go_at_call 34; (with_reducible refine (newDecoder_calls w.heap.size _ (S.out.up climb)).mono ?_); rintro _ w6 ⟨p, f, t, A, nn, c, rfl, hbel, hp0, hp1, hD⟩; have SB6 := Aside0.mk (below_step (bl SB.out) hbel); have hD6 := Aside0.mk hD; have HB6 := Aside0.mk hbel; clear hD hbel)
            | (go_at_call 33; (with_reducible refine (unpacked_calls p w1.heap.size (T.extract 136 T.size) 0 f t A nn c n _ (((Br.new w1 _ hT3).up climb).up HB6.out) (hD6.out _ (.inl (by first | omega | (simp; done) | (simp; omega)))) (HG.out.below hg SB6.out) hqn hn2).mono ?_); rintro _ w7 ⟨o, e, rfl, ho, hA⟩; have SB7 := Aside0.mk (Ap.then SB6.out hA SB.out.size SB6.out.size); have HO := Aside0.mk ho; clear hA ho)
            | (go_at_call 33; (with_reducible refine (unpacked_calls p w6.heap.size (T.extract 136 T.size) 0 f t A nn c n _ (Br.new w6 _ hT3) ((hD6.out _ (.inr (Nat.le_refl _))).up climb) (HG.out.below hg (bl SB6.out)) (by have := HB6.out.size; omega) hn2).mono ?_); rintro _ w7 ⟨o, e, rfl, ho, hA⟩; have SB7 := Aside0.mk (Ap.then (bl SB6.out) hA SB6.out.size (by have := SB6.out.size; first | omega | (simp; omega) | (simp only [World.size_alloc]; omega))); have HO := Aside0.mk ho; clear hA ho))
          all_goals
            (try go_wp2)
            go_meet
            case rel => exact ⟨_, _, rfl, rfl, HO.out, SB7⟩
        case rest =>
          obtain ⟨o, e, rfl, rfl, ho, SB9⟩ := hcut
          go_wp2
          go_ret2
          exact ⟨o, e, rfl, ho.imp id (fun h => ⟨h.1, by have := HN.out; omega⟩), bl SB9.out⟩
end Go.Proofs.YtefhcgnamfnkbaaDoor.Pr
