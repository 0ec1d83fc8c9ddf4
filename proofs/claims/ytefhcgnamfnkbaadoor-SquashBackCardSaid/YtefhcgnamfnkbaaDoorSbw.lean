/- squash.tokens, walked exactly. -/
import Derived.Test.YtefhcgnamfnkbaaDoorSbv
namespace Go.Proofs.YtefhcgnamfnkbaaDoor.Pr
open Go.RowKit Go.Proofs.YtefhcgnamfnkbaaDoorW.PrintWords Go.Proofs.YtefhcgnamfnkbaaDoorW.PrintLast Go.Proofs.YtefhcgnamfnkbaaDoorW.PrintMore
open Go.Proofs.YtefhcgnamfnkbaaDoor.Sb
set_option linter.unusedVariables false
set_option linter.unusedSimpArgs false
/-- What the walk must know of the search: its functions are letters, so that nothing unfolds them. -/
structure Agl (s : ByteArray) (AG : Nat → Nat → Nat → Nat → Nat) (T : Nat → Nat → Nat) : Prop where
  yes : ∀ {k i m q : Nat}, i + m < s.size → byF s (k + m) = byF s (i + m) → AG k i m (q + 1) = AG k i (m + 1) q
  no : ∀ {k i m q : Nat}, ¬ (i + m < s.size ∧ byF s (k + m) = byF s (i + m)) → AG k i m q = m
  nil : ∀ {k i m : Nat}, AG k i m 0 = m
  tot : ∀ {k i : Nat}, AG k i 0 520 = T k i
structure Sel (s : ByteArray) (T : Nat → Nat → Nat) (SE : Nat → Nat → Int → Nat → Int → Nat × Int) (BE : Nat → Nat × Int) : Prop where
  more : ∀ {i t k n : Nat} {fr : Int}, (i : Int) - k ≤ 32768 → n < T k i → SE i (t + 1) (k : Int) n fr = SE i t (chainF s k) (T k i) (k : Int)
  same : ∀ {i t k n : Nat} {fr : Int}, (i : Int) - k ≤ 32768 → ¬ n < T k i → SE i (t + 1) (k : Int) n fr = SE i t (chainF s k) n fr
  fin : ∀ {i t n : Nat} {k fr : Int}, ¬ (0 ≤ k ∧ (i : Int) - k ≤ 32768 ∧ 0 < (t : Int)) → SE i t k n fr = (n, fr)
  best : ∀ {i : Nat}, i + 3 ≤ s.size → BE i = SE i 32 (headF s i (hashF s i)) 0 0
  none : ∀ {i : Nat}, ¬ i + 3 ≤ s.size → (0, 0) = BE i
structure Tkl (s : ByteArray) (BE : Nat → Nat × Int) (TA : Nat → Tk) (ST : Nat → Nat) (TF : Nat → List Tk) : Prop where
  small : ∀ {i n : Nat} {fr : Int}, (n, fr) = BE i → (n : Int) < 3 → TA i = ⟨byF s i, 0, 0, 0⟩ ∧ ST i = 1
  mat : ∀ {i n : Nat} {fr : Int}, (n, fr) = BE i → ¬ (n : Int) < 3 → TA i = ⟨((matchF n).1 : Int), ((matchF n).2.1 : Int), ((matchF n).2.2 : Int), (i : Int) - fr - 1⟩ ∧ ST i = n
  yes : ∀ {i : Nat}, i < s.size → TF i = TA i :: TF (i + ST i)
  no : ∀ {i : Nat}, ¬ i < s.size → TF i = []
set_option maxHeartbeats 16000000 in
set_option maxRecDepth 2000000 in
theorem tokens_g (s : ByteArray) (AG : Nat → Nat → Nat → Nat → Nat) (T : Nat → Nat → Nat) (SE : Nat → Nat → Int → Nat → Int → Nat × Int) (BE : Nat → Nat × Int) (TA : Nat → Tk) (ST : Nat → Nat) (TF : Nat → List Tk) (ag : Agl s AG T) (se : Sel s T SE BE) (tk : Tkl s BE TA ST TF) (w : World) (hs : s.size ≤ 1000000) (hb : Gb w) (hg : 1 ≤ w.heap.size) :
    Calls Tryd.prog 29 #[.string s] w fun r w' => ∃ A L c, r = .returned (.slice A L c) ∧ w'.ownsRow (w.heap.size + 3) 72 4 (.slice A L c) L (flat4 (TF 0)) ∧ Below w.heap.size w w' := by
  have HG := Aside0.mk hb
  clear hb
  have hmk1 : ∀ w, (Instr.makeSlice 63 (.int .i64 32768) (.int .i64 32768)).run Tryd.prog w = .ok (.slice (some ⟨w.heap.size, 0, none⟩) 32768 32768) (w.alloc (.cells (madeCells #[.int .i64 0] 32768) 3)) := fun w => make_ints 32768 (by omega) w
  have hmk2 : ∀ w, (Instr.makeSlice 63 (.int .i64 (s.size : Int)) (.int .i64 (s.size : Int))).run Tryd.prog w = .ok (.slice (some ⟨w.heap.size, 0, none⟩) s.size s.size) (w.alloc (.cells (madeCells #[.int .i64 0] s.size) 3)) := fun w => make_ints s.size (by omega) w
  have hmf : ∀ (fn : Fn) (first cap : Array Value) (w : World), (Instr.makeFunc fn first cap).run Tryd.prog w = .ok (.func fn first cap) w := fun _ _ _ _ => rfl
  have P0 := Aside0.mk (hy_new w s)
  have bx := (blk_cell P0.out.box 0).trans rfl
  go_enter Tryd.func29, Tryd.ntmps29
  go_wp2_with (fail)
  clear hmk1 hmk2
  obtain ⟨p2, hp2⟩ : ∃ p2, p2 = w.heap.size + 1 + 1 := ⟨_, rfl⟩
  rw [← hp2]
  have hp3 : p2 = w.heap.size + 2 := hp2
  have HP := Aside0.mk hp3
  clear hp2 hp3
  go_loopg [23] 32768 (fun kq v23 w' => ∃ (e : Nat), v23 = .int .i64 (e : Int) ∧ Aside0 ((e : Int) + kq = 32768) ∧ Aside0 (Hy w w' s e))
  case atStart => exact ⟨0, rfl, ⟨by omega⟩, P0⟩
  case round =>
    clear P0 bx
    obtain ⟨e, rfl, hk, S⟩ := hrel
    by_cases he : (e : Int) < 32768
    · obtain ⟨g1, hg1⟩ : ∃ g1, gk = g1 + 1 := ⟨gk - 1, by have := hk.out; omega⟩
      have HG1 := Aside0.mk hg1
      clear hg1
      have c0 := S.out.hd.at_ (j := e) (by omega)
      generalize (if e < e then (-1 : Int) else 0) = v0 at c0
      have f0 := S.out.hd.free e
      go_wp2
      go_roundg g1
      case measure => have := HG1.out; omega
      case rel => have := HG1.out; have := hk.out; exact ⟨e + 1, by go_num, ⟨by omega⟩, ⟨S.out.put⟩⟩
    · have Z := Aside0.mk (show Ty w wr s 0 none 0 0 [] from (show Hy w wr s 32768 from (show e = 32768 by have := hk.out; omega) ▸ S.out).ty)
      clear S
      go_wp2_with (fail)
      clear hmf
      go_loopg [7, 8] s.size (fun kq v7 v8 w' => ∃ (i : Nat) (A : Option Addr) (L cap : Nat) (ts : List Tk), v7 = .slice A L cap ∧ v8 = .int .i64 (i : Int) ∧ i + kq = s.size ∧ L ≤ i ∧ Aside0 (ts ++ TF i = TF 0) ∧ Aside0 (Ty w w' s i A L cap ts))
      case atStart => exact ⟨0, none, 0, 0, [], rfl, rfl, by omega, by omega, ⟨rfl⟩, ⟨Z.out.up climb⟩⟩
      case round =>
        clear Z
        obtain ⟨i, A, L, cap, ts, rfl, rfl, hk2, hL, ET, S⟩ := hrel
        have b0 := S.out.c0
        by_cases hi : i < s.size
        · go_upto_region 13 with (fail)
          go_upto_if 39 with (fail)
          go_cut [9, 10, 11, 12, 13] (fun v9 v10 v11 v12 v13 wx => ∃ (n : Nat) (fr : Int), v9 = .int .i64 (n : Int) ∧ v10 = .int .i64 fr ∧ 0 ≤ fr ∧ fr ≤ i ∧ n ≤ 520 ∧ i + n ≤ s.size ∧ Aside0 ((n, fr) = BE i) ∧ Aside0 (Ty w wx s i A L cap ts))
          case first => as_aux_lemma =>
            by_cases h3 : (i : Int) + 3 ≤ s.size
            · go_upto_region 15 with (fail)
              go_upto_region 16 with (fail)
              refine (hash_x w.heap.size s i _ b0 (by omega) hs).mono ?_
              rintro _ w1 ⟨rfl, hb1⟩
              have S_ := Aside0.mk (S.out.up hb1)
              clear S hb1
              have S := S_
              clear S_
              have hl9 := hashF_lt s i
              have ch := S.out.hd.at_ hl9
              obtain ⟨hz, hz0⟩ : ∃ hz, hz = headF s i (hashF s i) := ⟨_, rfl⟩
              have ph : -1 ≤ hz ∧ hz < i := by (rw [hz0]; exact headF_b s i _)
              have HBF := Aside0.mk (show BE i = SE i 32 hz 0 0 by rw [se.best (by omega), hz0])
              rw [← hz0] at ch
              clear hz0
              generalize hashF s i = hn at ch hl9 ⊢
              have r9 : (hn : Int) < 32768 := by omega
              have r8 : 0 ≤ (hn : Int) := by omega
              obtain ⟨H, hH⟩ : ∃ H : Int, H = (hn : Int) := ⟨_, rfl⟩
              rw [← hH] at r9 r8 ⊢
              have hHn : H.toNat = hn := by omega
              rw [← hHn] at ch
              clear hH hHn hl9
              have HPH := Aside0.mk ph
              clear ph
              go_upto_region 16 with (fail)
              go_loopg [9, 10, 11, 12, 13] 33 (fun kq v9 v10 v11 v12 v13 w' => ∃ (n : Nat) (fr tr k : Int), v9 = .int .i64 (n : Int) ∧ v10 = .int .i64 fr ∧ v11 = .int .i64 tr ∧ v12 = .int .i64 k ∧ 0 ≤ fr ∧ fr ≤ i ∧ n ≤ 520 ∧ i + n ≤ s.size ∧ -1 ≤ k ∧ k < i ∧ tr + 1 ≤ kq ∧ tr ≤ 32 ∧ 0 ≤ tr ∧ Aside0 (SE i tr.toNat k n fr = BE i) ∧ Aside0 (Ty w w' s i A L cap ts))
              case atStart => have := HPH.out; exact ⟨0, 0, 32, hz, rfl, rfl, rfl, rfl, by omega, by omega, by omega, by omega, by omega, by omega, by omega, by omega, by omega, ⟨HBF.out.symm⟩, S⟩
              case round => as_aux_lemma =>
                clear S ch r9 r8 b0 HPH HBF
                obtain ⟨n, fr, tr, k, rfl, rfl, rfl, rfl, hfr0, hfr1, hn1, hn2, hk1, hki, htr, htr2, htr0, SEQ, S⟩ := hrel
                have b0 := S.out.c0
                by_cases hgo : 0 ≤ k ∧ (i : Int) - k ≤ 32768 ∧ 0 < tr
                · obtain ⟨g1', g2', g3'⟩ := hgo
                  obtain ⟨kn, rfl⟩ := Int.eq_ofNat_of_zero_le g1'
                  obtain ⟨t1, ht1⟩ : ∃ t1, tr.toNat = t1 + 1 := ⟨tr.toNat - 1, by omega⟩
                  rw [ht1] at SEQ
                  have HT1 := Aside0.mk (show (tr - 1).toNat = t1 by omega)
                  clear ht1
                  have hkb : kn ≤ i := by omega
                  go_upto_block 6 with (fail)
                  go_cut [13] (fun v13 wx => ∃ (m : Nat), v13 = .int .i64 (m : Int) ∧ m ≤ 520 ∧ i + m ≤ s.size ∧ Aside0 (m = T kn i) ∧ Aside0 (Ty w wx s i A L cap ts))
                  case first => as_aux_lemma =>
                    go_wp2_with (fail)
                    go_loopg [13] 520 (fun kq v13 w' => ∃ (m : Nat), v13 = .int .i64 (m : Int) ∧ Aside0 (m + kq = 520 ∧ AG kn i m kq = T kn i) ∧ m ≤ 520 ∧ i + m ≤ s.size ∧ Aside0 (Ty w w' s i A L cap ts))
                    case atStart => exact ⟨0, rfl, ⟨by omega, ag.tot⟩, by omega, by omega, ⟨S.out.up climb⟩⟩
                    case round =>
                      clear S b0
                      obtain ⟨m, rfl, hm, hmb, him, S⟩ := hrel
                      have b0 := S.out.c0
                      by_cases hm1 : m < 520
                      · have d1 : decide ((m : Int) < 520) = true := decide_eq_true (by omega)
                        by_cases hm2 : (i : Int) + m < s.size
                        · have d2 : decide ((i : Int) + m < (s.size : Int)) = true := decide_eq_true hm2
                          have r1 : 0 ≤ (kn : Int) + m := by omega
                          have r2 : (kn : Int) + m < s.size := by omega
                          have r3 : 0 ≤ (i : Int) + m := by omega
                          have r4 : ((kn : Int) + m).toNat = kn + m := by omega
                          have r5 : ((i : Int) + m).toNat = i + m := by omega
                          have hbe := byF_eq s (kn + m) (i + m) (by omega) (by omega)
                          by_cases hq : byF s (kn + m) = byF s (i + m)
                          · have qb : (((s[kn + m]'(by omega)).toNat : Int) == ((s[i + m]'(by omega)).toNat : Int)) = true := by rw [hbe]; exact decide_eq_true hq
                            have QE := Aside0.mk hq
                            clear hbe hq
                            go_upto_region 19 with (fail)
                            go_quiet (fail)
                            go_wp2
                            go_roundg (520 - (m + 1))
                            case measure => have := hm.out.1; omega
                            case rel =>
                              obtain ⟨h1, h2⟩ := hm.out
                              refine ⟨m + 1, by go_num, ⟨by omega, ?_⟩, by omega, by omega, ⟨S.out.up climb⟩⟩
                              rw [← h2, show gk = (520 - (m + 1)) + 1 by omega, ag.yes (by omega) QE.out]
                          · have qb : (((s[kn + m]'(by omega)).toNat : Int) == ((s[i + m]'(by omega)).toNat : Int)) = false := by rw [hbe]; exact decide_eq_false hq
                            have QE := Aside0.mk hq
                            clear hbe hq
                            go_upto_region 19 with (fail)
                            go_quiet (fail)
                            go_wp2
                            go_meet
                            case rel =>
                              obtain ⟨h1, h2⟩ := hm.out
                              exact ⟨m, rfl, by omega, by omega, ⟨by rw [← h2, ag.no (fun e => QE.out e.2)]⟩, ⟨S.out.up climb⟩⟩
                        · have d2 : decide ((i : Int) + m < (s.size : Int)) = false := decide_eq_false hm2
                          go_upto_region 19 with (fail)
                          go_quiet (fail)
                          go_wp2
                          go_meet
                          case rel =>
                            obtain ⟨h1, h2⟩ := hm.out
                            exact ⟨m, rfl, by omega, by omega, ⟨by rw [← h2, ag.no (fun e => by have := e.1; omega)]⟩, ⟨S.out.up climb⟩⟩
                      · have d1 : decide ((m : Int) < 520) = false := decide_eq_false (by omega)
                        go_upto_region 19 with (fail)
                        go_quiet (fail)
                        go_wp2
                        go_meet
                        case rel =>
                          obtain ⟨h1, h2⟩ := hm.out
                          exact ⟨m, rfl, by omega, by omega, ⟨by rw [← h2, show gk = 0 by omega, ag.nil]⟩, ⟨S.out.up climb⟩⟩
                  case rest => as_aux_lemma =>
                    clear S b0
                    obtain ⟨m, rfl, hm, him, MA, S⟩ := hcut
                    have hlt5 : kn < s.size := by omega
                    have hkn : kn < i := by omega
                    have cc := S.out.ch.at_ (j := kn) hlt5
                    rw [if_pos hkn] at cc
                    have cc' : wc.cell? ⟨p2, kn, none⟩ = some (.int .i64 (chainF s kn)) := by rw [HP.out]; exact cc
                    have PC := Aside0.mk (chainF_b s kn)
                    obtain ⟨cz, hcz⟩ : ∃ cz, cz = chainF s kn := ⟨_, rfl⟩
                    rw [← hcz] at cc' PC
                    have HCZ := Aside0.mk hcz
                    clear cc hcz
                    have r1 : (kn : Int) < s.size := by omega
                    by_cases hmn : (m : Int) > n
                    · have SE2 := Aside0.mk (show SE i t1 cz m (kn : Int) = BE i by
                        rw [← SEQ.out, se.more g2' (by rw [← MA.out]; omega), ← MA.out, HCZ.out])
                      go_wp2
                      go_roundg tr.toNat
                      case measure => omega
                      case rel =>
                        have := PC.out
                        exact ⟨m, kn, tr - 1, cz, rfl, rfl, rfl, rfl, by omega, by omega, by omega, by omega, by omega, by omega, by omega, by omega, by omega, ⟨by rw [HT1.out]; exact SE2.out⟩, ⟨S.out.up climb⟩⟩
                    · have SE2 := Aside0.mk (show SE i t1 cz n fr = BE i by
                        rw [← SEQ.out, se.same g2' (by rw [← MA.out]; omega), HCZ.out])
                      go_wp2
                      go_roundg tr.toNat
                      case measure => omega
                      case rel =>
                        have := PC.out
                        exact ⟨n, fr, tr - 1, cz, rfl, rfl, rfl, rfl, by omega, by omega, by omega, by omega, by omega, by omega, by omega, by omega, by omega, ⟨by rw [HT1.out]; exact SE2.out⟩, ⟨S.out.up climb⟩⟩
                · by_cases g1' : 0 ≤ k
                  · by_cases g2' : (i : Int) - k ≤ 32768
                    · have g3' : ¬ 0 < tr := fun h => hgo ⟨g1', g2', h⟩
                      have SF := Aside0.mk (show (n, fr) = BE i by rw [← SEQ.out, se.fin (fun h => hgo ⟨h.1, h.2.1, by have := h.2.2; omega⟩)])
                      clear hgo
                      go_wp2
                      go_meet
                      case rel => exact ⟨n, fr, rfl, rfl, by omega, by omega, by omega, by omega, SF, ⟨S.out.up climb⟩⟩
                    · have SF := Aside0.mk (show (n, fr) = BE i by rw [← SEQ.out, se.fin (fun h => hgo ⟨h.1, h.2.1, by have := h.2.2; omega⟩)])
                      clear hgo
                      go_wp2
                      go_meet
                      case rel => exact ⟨n, fr, rfl, rfl, by omega, by omega, by omega, by omega, SF, ⟨S.out.up climb⟩⟩
                  · have SF := Aside0.mk (show (n, fr) = BE i by rw [← SEQ.out, se.fin (fun h => hgo ⟨h.1, h.2.1, by have := h.2.2; omega⟩)])
                    clear hgo
                    go_wp2
                    go_meet
                    case rel => exact ⟨n, fr, rfl, rfl, by omega, by omega, by omega, by omega, SF, ⟨S.out.up climb⟩⟩
            · have SF := Aside0.mk (show ((0 : Nat), (0 : Int)) = BE i from se.none (by omega))
              go_wp2
              go_meet
              case rel => exact ⟨0, 0, rfl, rfl, by omega, by omega, by omega, by omega, SF, ⟨S.out.up climb⟩⟩
          case rest =>
            clear S b0
            obtain ⟨n, fr, rfl, rfl, hfr0, hfr1, hn5, hin, BF, S⟩ := hcut
            have b0 := S.out.c0
            obtain ⟨i0, hi0, hz0, hz1, hz2⟩ := info_parts tok_info
            have HO := Aside0.mk S.out.own
            have hsz := S.out.bw.size
            have hsz3 : w.heap.size + 3 ≤ wc.heap.size := S.out.ch.lt
            go_upto_if 95 with (fail)
            go_cut [7, 9] (fun v7 v9 wx => ∃ (n' : Nat) (A' : Option Addr) (cap' : Nat), v7 = .slice A' (L + 1) cap' ∧ v9 = .int .i64 (n' : Int) ∧ 1 ≤ n' ∧ i + n' ≤ s.size ∧ Aside0 (n' = ST i) ∧ Aside0 (Ty w wx s i A' (L + 1) cap' (ts ++ [TA i])))
            case first =>
              by_cases hn3 : (n : Int) < 3
              · have TS := (tk.small BF.out hn3).1
                have TS2 := Aside0.mk (tk.small BF.out hn3).2
                go_wp2_with (first | (at_builtin; rw [byF_at s i hi]; generalize byF s i = z at TS ⊢; refine wpList_append_lies _ rfl _ _ _ (by rfl) (w.heap.size + 3) 72 i0 _ 4 32 Tryd.underlying61 hi0 hz0 hz1 hz2 rfl (by omega) (.slice A L cap) L (flat4 ts) (by rfl) (HO.out.alloc _) ⟨wc.heap.size, 0, none⟩ 1 1 [.int .i64 z, .int .i64 0, .int .i64 0, .int .i64 0] (by rfl) (by rfl) (World.news_of_block (cs := #[.int .i64 z, .int .i64 0, .int .i64 0, .int .i64 0]) (t := 72) (fr := (0, 0)) (heap_alloc_new wc _)) (by simp [Value.oneCell']) (by omega) (by simp only [maxLen]; omega) (by omega) (by simp only [World.size_alloc]; omega) (wc.heap.size + 1) (by simp) ?_; intro gg cap1 w2 hown1 hgrow hat hlt1))
                go_meet
                case rel =>
                  exact ⟨1, _, cap1, rfl, rfl, by omega, by omega, ⟨TS2.out.symm⟩, ⟨by rw [TS]; exact S.out.stored (t := ⟨z, 0, 0, 0⟩) climb hgrow hown1⟩⟩
              · as_aux_lemma =>
                have TM := (tk.mat BF.out hn3).1
                have TM2 := Aside0.mk (tk.mat BF.out hn3).2
                go_wp2_with (first
                  | (go_at_call 72; (with_reducible refine (match_x n _ (by omega) (by omega) (HG.out.below hg (bl S.out.bw))).mono ?_); rintro _ w1 ⟨rfl, hb1⟩; generalize ((matchF n).1 : Int) = y at TM ⊢; generalize ((matchF n).2.1 : Int) = ta at TM ⊢; generalize ((matchF n).2.2 : Int) = tx at TM ⊢; have HB1 := Aside0.mk hb1; clear hb1; have HO1 := Aside0.mk (own_move HO.out (fun k hk => HB1.out.block k (own_lt HO.out k hk))); have hsz1 := HB1.out.size)
                  | (at_builtin; refine wpList_append_lies _ rfl _ _ _ (by rfl) (w.heap.size + 3) 72 i0 _ 4 32 Tryd.underlying61 hi0 hz0 hz1 hz2 rfl (by omega) (.slice A L cap) L (flat4 ts) (by rfl) (HO1.out.alloc _) ⟨w1.heap.size, 0, none⟩ 1 1 [.int .i64 y, .int .i64 ta, .int .i64 tx, .int .i64 ((i : Int) - fr - 1)] (by rfl) (by rfl) (World.news_of_block (cs := #[.int .i64 y, .int .i64 ta, .int .i64 tx, .int .i64 ((i : Int) - fr - 1)]) (t := 72) (fr := (0, 0)) (heap_alloc_new w1 _)) (by simp [Value.oneCell']) (by omega) (by simp only [maxLen]; omega) (by omega) (by simp only [World.size_alloc]; omega) (w1.heap.size + 1) (by simp) ?_; intro gg cap1 w2 hown1 hgrow hat hlt1))
                go_meet
                case rel => exact ⟨n, _, cap1, rfl, rfl, by omega, by omega, ⟨TM2.out.symm⟩, ⟨by rw [TM]; exact (S.out.up HB1.out).stored (t := ⟨y, ta, tx, (i : Int) - fr - 1⟩) climb hgrow hown1⟩⟩
            case rest =>
              clear S b0 HO hsz hsz3
              obtain ⟨n', A', cap', rfl, rfl, hn1, hin', NS, S⟩ := hcut
              go_wp2_with (fail)
              go_loopg [8, 122] n' (fun kq v8 v122 w' => ∃ (e : Nat), v8 = .int .i64 ((i + e : Nat) : Int) ∧ v122 = .int .i64 (e : Int) ∧ e + kq = n' ∧ Aside0 (Ty w w' s (i + e) A' (L + 1) cap' (ts ++ [TA i])))
              case atStart => exact ⟨0, rfl, rfl, by omega, ⟨S.out.up climb⟩⟩
              case round =>
                clear S
                obtain ⟨e, rfl, rfl, he, S⟩ := hrel
                have b0 := S.out.c0
                by_cases hen : e < n'
                · obtain ⟨j, hj⟩ : ∃ j, j = i + e := ⟨_, rfl⟩
                  rw [← hj] at S ⊢
                  have hjs : j < s.size := by omega
                  have HJ := Aside0.mk hj
                  clear hj
                  by_cases h3 : (j : Int) + 3 ≤ s.size
                  · have M0 : Aside0 (j = j + 0) := ⟨rfl⟩
                    go_upto_region 32 with (first
                      | (go_at_call 71; clear M0; (with_reducible refine (hash_x w.heap.size s j _ b0 (by omega) hs).mono ?_); rintro _ w1 ⟨rfl, hb1⟩; have S_ := Aside0.mk (S.out.up hb1); clear S hb1 b0; have S := S_; clear S_; have b0 := S.out.c0))
                    refine (hash_x w.heap.size s j _ b0 (by omega) hs).mono ?_
                    rintro _ w2 ⟨rfl, hb1⟩
                    have S_ := Aside0.mk (S.out.up hb1)
                    clear S hb1 b0
                    have S := S_
                    clear S_
                    obtain ⟨hz1, cz, ch, cc, f1, f2, ch3⟩ := S.out.two hjs p2 HP.out
                    have hl9 := hashF_lt s j
                    have Z1 := S.out.put (by omega)
                    rw [← HP.out] at Z1
                    have ZZ := Aside0.mk Z1
                    clear Z1
                    generalize headF s j (hashF s j) = hz at ch ch3 ZZ
                    generalize hashF s j = hk2 at ch f2 ch3 hl9 ZZ ⊢
                    have r9 : (hk2 : Int) < 32768 := by omega
                    have r8 : 0 ≤ (hk2 : Int) := by omega
                    obtain ⟨H2, hH2⟩ : ∃ H : Int, H = (hk2 : Int) := ⟨_, rfl⟩
                    rw [← hH2] at r9 r8 ⊢
                    have hHn : hk2 = H2.toNat := by omega
                    rw [hHn] at ch f2 ch3 ZZ
                    clear hH2 hHn hl9
                    have r7 : (j : Int) < s.size := by omega
                    go_upto_region 32 with (fail)
                    go_wp2
                    go_roundg (n' - (e + 1))
                    case measure => omega
                    case rel => have := HJ.out; exact ⟨e + 1, by congr 1; omega, by go_num, by omega, ⟨(show j + 1 = i + (e + 1) by omega) ▸ (ZZ.out.up climb)⟩⟩
                  · go_wp2
                    go_roundg (n' - (e + 1))
                    case measure => omega
                    case rel => have := HJ.out; exact ⟨e + 1, by congr 1; omega, by go_num, by omega, ⟨(show j + 1 = i + (e + 1) by omega) ▸ ((S.out.next (by omega)).up climb)⟩⟩
                · go_wp2
                  go_roundg (s.size - (i + n'))
                  case measure => omega
                  case rel => exact ⟨i + n', A', L + 1, cap', _, rfl, by have : e = n' := by omega
                                                                         rw [this], by omega, by omega, ⟨by rw [NS.out, List.append_assoc, ← ET.out, tk.yes hi]; rfl⟩, ⟨(show i + e = i + n' by omega) ▸ S.out⟩⟩
        · go_wp2
          go_ret
          have hts : ts = TF 0 := by rw [← ET.out, tk.no hi, List.append_nil]
          refine ⟨A, L, cap, rfl, ?_, (S.out.up climb).bw⟩
          rw [← hts]
          exact own_move S.out.own (fun k hk => rfl)
theorem tokens_x (s : ByteArray) (w : World) (hs : s.size ≤ 1000000) (hb : Gb w) (hg : 1 ≤ w.heap.size) :
    Calls Tryd.prog 29 #[.string s] w fun r w' => ∃ A L c, r = .returned (.slice A L c) ∧ w'.ownsRow (w.heap.size + 3) 72 4 (.slice A L c) L (flat4 (tokF s 0)) ∧ Below w.heap.size w w' :=
  tokens_g s (agree s) (fun k i => agree s k i 0 520) (search s) (bestF s) (tokAt s) (stepAt s) (tokF s) ⟨agree_yes, agree_no, rfl, rfl⟩
    ⟨search_more, search_same, search_end, fun h => by unfold bestF; rw [if_pos h], fun h => by unfold bestF; rw [if_neg h]⟩ ⟨tok_small, tok_match, tokF_yes, tokF_no⟩ w hs hb hg
end Go.Proofs.YtefhcgnamfnkbaaDoor.Pr
