/- squash: the decoder's symbol, exactly, where the bits are a code. squash.unpacked, exactly: its words. squash.unpacked, walked exactly. squash.Unpack, walked exactly, on what squash.Pack answers. -/
import Derived.Test.YtefhcgnamfnkbaaDoorSbs
import Derived.Test.YtefhcgnamfnkbaaDoorSye
import Derived.Test.YtefhcgnamfnkbaaDoorSyf
import Derived.Test.YtefhcgnamfnkbaaDoorSbu
import Derived.Test.YtefhcgnamfnkbaaDoorSqu
import Derived.Test.YtefhcgnamfnkbaaDoorSqx
namespace Go.Proofs.YtefhcgnamfnkbaaDoor.Pr
open Go.RowKit Go.Proofs.YtefhcgnamfnkbaaDoorW.PrintWords Go.Proofs.YtefhcgnamfnkbaaDoorW.PrintLast Go.Proofs.YtefhcgnamfnkbaaDoorW.PrintMore
open Go.Proofs.YtefhcgnamfnkbaaDoor.Sb
set_option linter.unusedVariables false
set_option linter.unusedSimpArgs false
set_option maxHeartbeats 4000000 in
set_option maxRecDepth 100000 in
theorem symbol_x (p q : Nat) (s : ByteArray) (i y m : Nat) (ln : Nat → Nat) (A : Option Addr) (n c : Nat) (w : World) (h : Br w q s (i : Int)) (d : Dx w p q ln A n c) (hy : y < 272) (hm : ln y = m) (hm1 : 1 ≤ m) (hm15 : m ≤ 15) (hroom : i + m ≤ 8 * s.size) (hcode : numF s i m = fstC ln m + cntL ln m y) (hno : ∀ e, 1 ≤ e → e < m → fstC ln e + ofLen ln e ≤ numF s i e) :
    Calls Tryd.prog 76 #[.pointer (some ⟨p, 0, none⟩), .pointer (some ⟨q, 0, none⟩)] w fun r w' => r = .returned (.tuple #[.int .i64 (y : Int), .int .i64 0]) ∧ Br w' q s ((i + m : Nat) : Int) ∧ Ap w.heap.size q w w' := by
  have H := Aside0.mk h
  have D := Aside0.mk d
  have HROOM := Aside0.mk hroom
  have HCODE := Aside0.mk hcode
  have HNO := Aside0.mk hno
  have HM := Aside0.mk hm
  have LE := Aside0.mk (fun e => listTo_le ln e)
  clear h d hroom hcode hno hm
  go_enter Tryd.func76, Tryd.ntmps76
  go_wp2_with (fail)
  go_loopg [6, 7] 15 (fun kq v6 v7 w' => ∃ (e : Nat) (v : Int), v6 = .int .i64 v ∧ v7 = .int .i64 (e : Int) ∧ e + kq = 16 ∧ 1 ≤ e ∧ e ≤ m ∧ 0 ≤ v ∧ v < 32768 ∧ Aside0 (v = (numF s i (e - 1) : Int)) ∧ Aside0 (Br w' q s ((i + (e - 1) : Nat) : Int)) ∧ Aside0 (Ap w.heap.size q w w'))
  case atStart => exact ⟨1, 0, rfl, rfl, by omega, by omega, by omega, by omega, by omega, ⟨rfl⟩, H, ⟨Ap.refl _ _ _⟩⟩
  case round =>
    clear H
    obtain ⟨e, v, rfl, rfl, hk, he1, hem, hv0, hv1, E, S, SA⟩ := hrel
    obtain ⟨g1, hg1⟩ : ∃ g1, gk = g1 + 1 := ⟨gk - 1, by omega⟩
    have HG := Aside0.mk hg1
    clear hg1
    have he15 : e ≤ 15 := by omega
    have EQ := Aside0.mk (show (numF s i e : Int) = 2 * v + (rb s (i + (e - 1)) : Int) by
      rw [E.out]
      obtain ⟨e', rfl⟩ : ∃ e', e = e' + 1 := ⟨e - 1, by omega⟩
      rw [Nat.add_sub_cancel]
      show ((2 * numF s i e' + rb s (i + e') : Nat) : Int) = _
      omega)
    have hlt := numF_lt s i e
    have h2 : 2 ^ e ≤ 2 ^ 15 := Nat.pow_le_pow_right (by omega) (by omega)
    have h3 : (2 : Nat) ^ 15 = 32768 := by decide
    have HV := Aside0.mk (show (numF s i e : Int) < 32768 by omega)
    obtain ⟨b, hrb⟩ : ∃ b : Int, (rb s (i + (e - 1)) : Int) = b := ⟨_, rfl⟩
    have hb0 : 0 ≤ b := by omega
    have hb1 : b ≤ 1 := by have := rb_le s (i + (e - 1)); omega
    rw [hrb] at EQ
    have HRB := Aside0.mk hrb
    have HIQ := Aside0.mk (show i + (e - 1) < 8 * s.size by have := HROOM.out; omega)
    clear hrb hlt h2 h3
    go_upto_region 8 with (first | (go_at_call 79; (with_reducible refine (bit_xb q s (i + (e - 1)) b _ S.out HIQ.out HRB.out).mono ?_); rintro _ w1 ⟨rfl, S', A'⟩; have SA_ := Aside0.mk (SA.out.seq A'); have S_ := Aside0.mk S'; clear S SA S' A'; have S := S_; have SA := SA_; clear S_ SA_))
    have D1 := Aside0.mk (D.out.move SA.out)
    have k0 := D1.out.cl
    have k1 := D1.out.cf e (by omega)
    have k2 := D1.out.ct e (by omega)
    have hlen := Aside0.mk D1.out.len
    obtain ⟨F, hF⟩ : ∃ F : Int, F = (fstC ln e : Int) := ⟨_, rfl⟩
    obtain ⟨T, hT⟩ : ∃ T : Int, T = ((listTo ln (e - 1)).length : Int) := ⟨_, rfl⟩
    rw [← hF] at k1
    rw [← hT] at k2
    have hF0 : 0 ≤ F ∧ F ≤ 40000000 := by have := fstC_small ln (show e ≤ 16 by omega); omega
    have hT0 : 0 ≤ T ∧ T ≤ 4080 := by have := LE.out (e - 1); omega
    have hn0 : n ≤ 4080 := by have := LE.out 15; have := hlen.out; omega
    have hST : ((listTo ln e).length : Int) = T + (ofLen ln e : Int) := by
      rw [hT]
      obtain ⟨e', rfl⟩ : ∃ e', e = e' + 1 := ⟨e - 1, by omega⟩
      rw [Nat.add_sub_cancel, listTo_length]; omega
    have HT := Aside0.mk hT
    have HF := Aside0.mk hF
    have HST := Aside0.mk hST
    clear hT hF hST
    have S8 := Aside0.mk (show Br w1 q s ((i + e : Nat) : Int) by have := S.out; rw [show i + (e - 1) + 1 = i + e by omega] at this; exact this)
    clear S
    by_cases hlast : e = m
    · have hk' : 2 * v + b - F = (cntL ln m y : Int) := by
        have h1 := EQ.out
        have h2 := HCODE.out
        have h3 := HF.out
        rw [hlast] at h1 h3
        omega
      have hc0 : cntL ln m y < ofLen ln m := by
        have h1 := (List.getElem?_eq_some_iff.1 (symsOf_at HM.out hy)).1
        rw [symsOf_length] at h1
        unfold ofLen
        rw [if_neg (by omega)]; exact h1
      have hat := listTo_at (n := 15) HM.out hm1 hm15 hy
      obtain ⟨ad, rfl, _, hc⟩ := D1.out.el _ _ hat
      have r1 : 0 ≤ 2 * v + b - F := by omega
      have r3 : 0 ≤ T + (2 * v + b - F) := by omega
      have r5 : (T + (2 * v + b - F)).toNat = (listTo ln (m - 1)).length + cntL ln m y := by
        have h1 := HT.out
        rw [hlast] at h1
        omega
      have hlt := (List.getElem?_eq_some_iff.1 hat).1
      have r4 : T + (2 * v + b - F) < (n : Int) := by have := hlen.out; omega
      rw [← r5] at hc
      have S9 := Aside0.mk (show Br w1 q s ((i + m : Nat) : Int) by rw [← hlast]; exact S8.out)
      by_cases h15 : e < 15
      · have k3 := D1.out.ct (e + 1) (by omega)
        rw [Nat.add_sub_cancel, HST.out] at k3
        have r2 : 2 * v + b - F < T + (ofLen ln e : Int) - T := by rw [hk', hlast]; omega
        obtain ⟨T1, hT1⟩ : ∃ T1 : Int, T1 = T + (ofLen ln e : Int) := ⟨_, rfl⟩
        have hT9 : 0 ≤ T1 ∧ T1 ≤ 4352 := by have := ofLen_le ln e; omega
        rw [← hT1] at k3 r2
        clear hT1 hk' hc0 hat hlt r5 hlast
        go_wp2
        repeat (go_quiet (fail); try go_wp2)
        go_ret2
        exact ⟨rfl, S9.out.up climb, SA.out.climb climb⟩
      · have r15 : ¬ (e : Int) < 15 := by omega
        have r2 : 2 * v + b - F < (n : Int) - T := by
          have h1 := HST.out
          have h2 := hlen.out
          have h4 : m = 15 := by omega
          rw [hlast, h4] at h1
          rw [h4] at hk' hc0
          omega
        clear hk' hc0 hat hlt r5 hlast
        go_wp2
        repeat (go_quiet (fail); try go_wp2)
        go_ret2
        exact ⟨rfl, S9.out.up climb, SA.out.climb climb⟩
    · have hem2 : e < m := by omega
      have h15 : e < 15 := by omega
      have k3 := D1.out.ct (e + 1) (by omega)
      rw [Nat.add_sub_cancel, HST.out] at k3
      have r2 : ¬ 2 * v + b - F < T + (ofLen ln e : Int) - T := by
        have h1 := HNO.out e he1 hem2
        have h2 := EQ.out
        have h3 := HF.out
        omega
      have r1 : 0 ≤ 2 * v + b - F := by
        have h1 := HNO.out e he1 hem2
        have h2 := EQ.out
        have h3 := HF.out
        omega
      obtain ⟨T1, hT1⟩ : ∃ T1 : Int, T1 = T + (ofLen ln e : Int) := ⟨_, rfl⟩
      have hT9 : 0 ≤ T1 ∧ T1 ≤ 4352 := by have := ofLen_le ln e; omega
      rw [← hT1] at k3 r2
      clear hT1
      go_wp2
      all_goals go_roundg g1
      case measure => have := HG.out; omega
      case rel =>
        have h1 := HG.out
        have h2 := EQ.out
        have h3 := HV.out
        exact ⟨e + 1, 2 * v + b, by go_num, by go_num, by omega, by omega, by omega, by omega, by omega, ⟨h2.symm⟩, S8, SA⟩
end Go.Proofs.YtefhcgnamfnkbaaDoor.Pr
namespace Go.Proofs.YtefhcgnamfnkbaaDoor.Pr
open Go.RowKit Go.Proofs.YtefhcgnamfnkbaaDoorW.PrintWords Go.Proofs.YtefhcgnamfnkbaaDoorW.PrintLast Go.Proofs.YtefhcgnamfnkbaaDoorW.PrintMore
open Go.Proofs.YtefhcgnamfnkbaaDoor.Sb
set_option linter.unusedVariables false
set_option linter.unusedSimpArgs false
/-- The tokens that are left, at place L of the string, stand at bit j. -/
structure Rst (R s : ByteArray) (ln : Nat → Nat) (L j : Nat) : Prop where
  lies : Lies R j (tokB ln (tokF s L))
  len : j + (tokB ln (tokF s L)).length = (tokB ln (tokF s 0)).length
  mem : ∀ t ∈ tokF s L, t ∈ tokF s 0
theorem Holds.room {R : ByteArray} {bs : List Bool} (h : Holds R bs) : bs.length ≤ 8 * R.size := by have := h.size; omega
theorem Rst.new {R s : ByteArray} {ln : Nat → Nat} (h : Holds R (tokB ln (tokF s 0))) : Rst R s ln 0 0 := ⟨h.lies, by omega, fun t h => h⟩
theorem Rst.one {R s : ByteArray} {ln : Nat → Nat} {L j : Nat} (h : Rst R s ln L j) (hL : L < s.size) : tokAt s L ∈ tokF s 0 := h.mem _ (by rw [tokF_yes hL]; exact List.mem_cons_self ..)
theorem Rst.go {R s : ByteArray} {ln : Nat → Nat} {L j : Nat} (h : Rst R s ln L j) (hL : L < s.size) : Rst R s ln (L + stepAt s L) (j + (tkBits ln (tokAt s L)).length) := by
  have h1 := h.lies
  have h2 := h.len
  have h3 := h.mem
  rw [tokF_yes hL] at h1 h2 h3
  rw [tokB_cons] at h1 h2
  rw [List.length_append] at h2
  exact ⟨h1.right, by omega, fun t ht => h3 t (List.mem_cons_of_mem _ ht)⟩
theorem Rst.byte {R s : ByteArray} {ln : Nat → Nat} {L j y : Nat} (h : Rst R s ln L j) (H : Holds R (tokB ln (tokF s 0))) (hL : L < s.size) (e : tokAt s L = ⟨(y : Int), 0, 0, 0⟩) (hy : y < 256) (hs : stepAt s L = 1) :
    Lies R j (kb (codeOf ln y) (ln y)) ∧ j + ln y ≤ 8 * R.size ∧ Rst R s ln (L + 1) (j + ln y) := by
  have hb : tkBits ln (tokAt s L) = kb (codeOf ln y) (ln y) := by
    rw [e]
    unfold tkBits
    rw [Int.toNat_natCast, if_neg (by show ¬ 256 ≤ (y : Int); omega), List.append_nil]
  have h4 := h.go hL
  have h1 := h.lies
  have hr := H.room
  have h5 := h4.len
  rw [tokF_yes hL, tokB_cons, hb] at h1
  rw [hb, kb_length, hs] at h4
  rw [hb, kb_length] at h5
  exact ⟨h1.left, by omega, h4⟩
theorem Rst.mat {R s : ByteArray} {ln : Nat → Nat} {L j y a x b : Nat} (h : Rst R s ln L j) (H : Holds R (tokB ln (tokF s 0))) (hL : L < s.size) (e : tokAt s L = ⟨(y : Int), (a : Int), (x : Int), (b : Int)⟩) (hy : 256 ≤ y) :
    Lies R j (kb (codeOf ln y) (ln y)) ∧ Lies R (j + ln y) (kb a x) ∧ Lies R (j + ln y + x) (kb b 15) ∧ j + ln y + x + 15 ≤ 8 * R.size ∧ Rst R s ln (L + stepAt s L) (j + ln y + x + 15) := by
  have hb : tkBits ln (tokAt s L) = kb (codeOf ln y) (ln y) ++ (kb a x ++ kb b 15) := by
    rw [e]
    unfold tkBits
    rw [Int.toNat_natCast, Int.toNat_natCast, Int.toNat_natCast, Int.toNat_natCast, if_pos (by show 256 ≤ (y : Int); omega)]
  have h4 := h.go hL
  have h1 := h.lies
  have hr := H.room
  have h5 := h4.len
  have hl : (tkBits ln (tokAt s L)).length = ln y + x + 15 := by rw [hb, List.length_append, List.length_append, kb_length, kb_length, kb_length]; omega
  rw [tokF_yes hL, tokB_cons, hb] at h1
  rw [hl] at h4 h5
  rw [show j + (ln y + x + 15) = j + ln y + x + 15 by omega] at h4 h5
  have h6 := h1.left.right
  rw [kb_length] at h6
  have h7 := h6.right
  rw [kb_length] at h7
  exact ⟨h1.left.left, h6.left, h7, by omega, h4⟩
theorem Rst.fin {R s : ByteArray} {ln : Nat → Nat} {j : Nat} (h : Rst R s ln s.size j) (H : Holds R (tokB ln (tokF s 0))) : j ≤ 8 * R.size ∧ 8 * R.size < j + 8 ∧ ∀ k, j ≤ k → rb R k = 0 := by
  have h1 := h.len
  have h2 := H.size
  rw [tokF_no (s := s) (i := s.size) (by omega)] at h1
  have h3 : (tokB ln []).length = 0 := rfl
  rw [h3] at h1
  exact ⟨by omega, by omega, fun k hk => by rw [H.bits, bt1_far (by omega)]⟩
theorem bytes_next (s : ByteArray) (i : Nat) : bi (bytesS s i) ++ [(bnF s i : Int)] = bi (bytesS s (i + 1)) := by
  rw [bytesS_succ, ← bi_app]; rfl
theorem bytes_get {s : ByteArray} {i j : Nat} (h : j < i) : (bi (bytesS s i)).getD j 0 = (bnF s j : Int) := by
  refine bi_at ?_
  unfold bytesS
  rw [List.getElem?_map, List.getElem?_range h]; rfl
theorem str_back (s : ByteArray) : strOfNums (bi (bytesS s s.size)) = s := by
  have e : (strOfNums (bi (bytesS s s.size))).data = s.data := by
    refine Array.ext (by show (strOfNums (bi (bytesS s s.size))).size = s.size; rw [strOf_size, bi_len, bytesS_length]) fun i h1 h2 => ?_
    have h3 := str_getD (bytesS s s.size) i
    rw [bytesS_at (show i < s.size from h2), Nat.mod_eq_of_lt (bnF_lt s i), ← Array.getElem_eq_getD (h := h1)] at h3
    refine UInt8.toNat_inj.1 (h3.trans ?_)
    unfold bnF
    rw [← Array.getElem_eq_getD (h := h2)]
  cases s
  exact congrArg ByteArray.mk e
theorem code_x (p q : Nat) (R : ByteArray) (j y m : Nat) (ln : Nat → Nat) (A : Option Addr) (n c : Nat) (w : World) (h : Br w q R (j : Int)) (d : Dx w p q ln A n c) (hK : sumTo ln 15 ≤ 32768) (hy : y < 272) (hm : ln y = m) (hm1 : 1 ≤ m) (hm15 : m ≤ 15) (hroom : j + m ≤ 8 * R.size) (hl : Lies R j (kb (codeOf ln y) m)) :
    Calls Tryd.prog 76 #[.pointer (some ⟨p, 0, none⟩), .pointer (some ⟨q, 0, none⟩)] w fun r w' => r = .returned (.tuple #[.int .i64 (y : Int), .int .i64 0]) ∧ Br w' q R ((j + m : Nat) : Int) ∧ Ap w.heap.size q w w' := by
  obtain ⟨h1, h2⟩ := sym_reads hK hm hm1 hm15 hy hl
  exact symbol_x p q R j y m ln A n c w h d hy hm hm1 hm15 hroom h1 h2
theorem number_xb (p : Nat) (R : ByteArray) (i n v : Nat) (w : World) (hn : n ≤ 15) (h : Br w p R (i : Int)) (hi : i + n ≤ 8 * R.size) (hv : v < 2 ^ n) (hl : Lies R i (kb v n)) :
    Calls Tryd.prog 78 #[.pointer (some ⟨p, 0, none⟩), .int .i64 (n : Int)] w fun r w' => r = .returned (.int .i64 (v : Int)) ∧ Br w' p R ((i + n : Nat) : Int) ∧ Ap w.heap.size p w w' := by
  have e := numF_all hv hl.num
  have k := number_x p R i n w hn h hi
  rw [e] at k
  exact k
theorem number_xb15 (p : Nat) (R : ByteArray) (i v : Nat) (w : World) (h : Br w p R (i : Int)) (hi : i + 15 ≤ 8 * R.size) (hv : v < 32768) (hl : Lies R i (kb v 15)) :
    Calls Tryd.prog 78 #[.pointer (some ⟨p, 0, none⟩), .int .i64 15] w fun r w' => r = .returned (.int .i64 (v : Int)) ∧ Br w' p R ((i + 15 : Nat) : Int) ∧ Ap w.heap.size p w w' := number_xb p R i 15 v w (by omega) h hi hv hl
theorem span_xb (y b x : Nat) (w : World) (h0 : 256 ≤ y) (h1 : y < 272) (hb : Gb w) (e1 : (spanF y).1 = b) (e2 : (spanF y).2 = x) :
    Calls Tryd.prog 77 #[.int .i64 (y : Int)] w fun r w' => r = .returned (.tuple #[.int .i64 (b : Int), .int .i64 (x : Int)]) ∧ Below w.heap.size w w' := by
  have k := span_x y w h0 h1 hb
  rw [e1, e2] at k
  exact k
/-- The string that is being unpacked: the reader at q, L bytes of the call's own. -/
structure Ukx (w0 w : World) (q : Nat) (R : ByteArray) (j : Nat) (A : Option Addr) (L cap : Nat) (ys : List Int) : Prop where
  br : Br w q R (j : Int)
  own : w.ownsRow w0.heap.size 5 1 (.slice A L cap) L (ub ys)
  ap : Ap w0.heap.size q w0 w
  lt : q < w0.heap.size
variable {w0 w w' : World} {q j L cap : Nat} {R : ByteArray} {A : Option Addr} {ys : List Int}
theorem Ukx.up (h : Ukx w0 w q R j A L cap ys) (k : Below w.heap.size w w') : Ukx w0 w' q R j A L cap ys :=
  ⟨h.br.up k, own_move h.own (fun i hi => k.block i (own_lt h.own i hi)), h.ap.climb k, h.lt⟩
theorem Ukx.call (h : Ukx w0 w q R j A L cap ys) {j' : Nat} (b : Br w' q R (j' : Int)) (k : Ap w.heap.size q w w') : Ukx w0 w' q R j' A L cap ys :=
  ⟨b, own_move h.own (fun i hi => k.block i (own_lt h.own i hi) (by have := own_base h.own i hi; have := h.lt; omega)), h.ap.seq k, h.lt⟩
theorem Ukx.stored (h : Ukx w0 w q R j A L cap ys) {w2 w1 : World} {gg cap1 : Nat} {v : Int} (hb : Below w.heap.size w w2) (hg : w2.grownBy w1 (Value.slice A L cap).ownBlock)
    (hw : w1.ownsRow w0.heap.size 5 1 (.slice (some ⟨gg, 0, none⟩) (L + 1) cap1) (L + 1) (ub ys ++ [.int .u8 v])) : Ukx w0 w1 q R j (some ⟨gg, 0, none⟩) (L + 1) cap1 (ys ++ [v]) := by
  have ho := h.own
  have hn : ∀ i, (Value.slice A L cap).ownBlock = some i → w0.heap.size ≤ i := own_base ho
  have hsz := h.ap.size
  have hsz2 := hb.size
  have hlt := h.lt
  have hkeep : ∀ i, i < w0.heap.size → w1.heap[i]? = w.heap[i]? := fun i hi => by
    rw [hg.block i (by omega) (fun e => by have := hn i e.symm; omega), hb.block i (by omega)]
  refine ⟨⟨(hkeep q hlt).trans h.br.box, h.br.lo, h.br.hi, h.br.sz⟩, by rw [← ub_app]; exact hw, ⟨hg.os.trans (hb.os.trans h.ap.os), hg.tape.trans (hb.tape.trans h.ap.tape), hg.output.trans (hb.output.trans h.ap.output), Nat.le_trans hsz (Nat.le_trans hsz2 hg.size), fun i hi hiq => ?_⟩, hlt⟩
  rw [hkeep i hi, h.ap.block i hi hiq]
theorem Ukx.at_ (h : Ukx w0 w q R j A L cap ys) {i : Nat} (hi : i < L) : ∃ g, A = some ⟨g, 0, none⟩ ∧ w.cell? ⟨g, i, none⟩ = some (.int .u8 (ys.getD i 0)) := by
  have ho := h.own
  have hl : ys.length = L := by have := ho.1; simp [ub] at this; omega
  obtain ⟨g, cap', hv, _, hlt⟩ := ho.form (by omega)
  simp only [Value.slice.injEq] at hv
  obtain ⟨rfl, _, rfl⟩ := hv
  have hx : (ub ys)[i]? = some (.int .u8 (ys.getD i 0)) := by
    simp [ub, List.getElem?_eq_getElem (show i < ys.length by omega)]
  have := ho.cells (g := g) rfl i _ hx
  have e1 : (⟨g, 0, none⟩ : Addr).add i = ⟨g, i, none⟩ := by unfold Addr.add; by_cases h0 : i = 0 <;> simp [h0]
  rw [e1] at this
  exact ⟨g, rfl, this⟩
end Go.Proofs.YtefhcgnamfnkbaaDoor.Pr
namespace Go.Proofs.YtefhcgnamfnkbaaDoor.Pr
open Go.RowKit Go.Proofs.YtefhcgnamfnkbaaDoorW.PrintWords Go.Proofs.YtefhcgnamfnkbaaDoorW.PrintLast Go.Proofs.YtefhcgnamfnkbaaDoorW.PrintMore
open Go.Proofs.YtefhcgnamfnkbaaDoor.Sb
set_option linter.unusedVariables false
set_option linter.unusedSimpArgs false
set_option maxHeartbeats 8000000 in
set_option maxRecDepth 100000 in
theorem unpacked_x (p q : Nat) (R s : ByteArray) (ln : Nat → Nat) (D : Option Addr) (dn dc n : Nat) (w : World) (h : Br w q R 0) (d : Dx w p q ln D dn dc) (hb : Gb w) (hq : q ≠ 0) (hln : ln = lnS s) (hR : Holds R (tokB ln (tokF s 0))) (hn : s.size = n) (hn2 : n ≤ 65535) :
    Calls Tryd.prog 33 #[.pointer (some ⟨q, 0, none⟩), .pointer (some ⟨p, 0, none⟩), .int .i64 (n : Int)] w fun r w' => r = .returned (.tuple #[.string s, .int .i64 0]) ∧ Ap w.heap.size q w w' := by
  have DD := Aside0.mk d
  have HG := Aside0.mk hb
  have HN := Aside0.mk hn
  have HH := Aside0.mk hR
  have HK := Aside0.mk (show sumTo ln 15 ≤ 32768 from hln ▸ lnS_sum s)
  have LE := Aside0.mk (show ∀ y, ln y ≤ 15 from hln ▸ lnS_le s)
  have LP := Aside0.mk (show ∀ t ∈ tokF s 0, 1 ≤ ln t.y.toNat from hln ▸ fun t ht => lnS_pos ht)
  have R0 := Aside0.mk (Rst.new hR)
  have S0 := Aside0.mk (show Ukx w w q R 0 none 0 0 (bi (bytesS s 0)) from ⟨h, World.ownsRow_nil _ _ _ _, Ap.refl _ _ _, blk_lt h.box⟩)
  clear h d hb hln hR hn
  go_enter Tryd.func33, Tryd.ntmps33
  go_wp2_with (fail)
  go_loopg [8] n (fun kq v8 w' => ∃ (L : Nat) (A : Option Addr) (cap : Nat) (j : Nat), v8 = .slice A L cap ∧ L + kq = n ∧ Aside0 (Rst R s ln L j) ∧ Aside0 (Ukx w w' q R j A L cap (bi (bytesS s L))))
  case atStart => exact ⟨0, none, 0, 0, rfl, by omega, R0, S0⟩
  case round =>
    clear S0 R0
    obtain ⟨L, A, cap, j, rfl, hk, RS, S⟩ := hrel
    by_cases hL : L < n
    · have hLs : L < s.size := by have := HN.out; omega
      have HM := Aside0.mk (RS.out.one hLs)
      have HLP := Aside0.mk (LP.out _ HM.out)
      rcases tok_cases hLs with ⟨e, hst⟩ | ⟨y, a, x, b, f, e, y0, y1, sp1, sp2, a9, x8, b9, hf, hsame, hroom⟩
      · obtain ⟨y, hy⟩ : ∃ y, y = bnF s L := ⟨_, rfl⟩
        have hy256 : y < 256 := by rw [hy]; exact bnF_lt s L
        rw [← hy] at e
        obtain ⟨l1, l2, l3⟩ := RS.out.byte HH.out hLs e hy256 hst
        have hm1 : 1 ≤ ln y := by have h2 := HLP.out; rw [e] at h2; exact h2
        obtain ⟨m, hm⟩ : ∃ m, m = ln y := ⟨_, rfl⟩
        rw [← hm] at l1 l2 l3 hm1
        have L1 := Aside0.mk l1
        have L2 := Aside0.mk l2
        have R3 := Aside0.mk l3
        have HM15 := Aside0.mk (show m ≤ 15 by rw [hm]; exact LE.out y)
        have HME := Aside0.mk hm.symm
        have HY := Aside0.mk hy
        clear l1 l2 l3 hm hy e hst hLs HM HLP RS
        go_upto_region 6 with (first | (go_at_call 76; (with_reducible refine (code_x p q R j y m ln D dn dc _ S.out.br (DD.out.move S.out.ap) HK.out (by omega) HME.out hm1 HM15.out L2.out L1.out).mono ?_); rintro _ w1 ⟨rfl, S', A'⟩; have S_ := Aside0.mk (S.out.call S' A'); clear S S' A'; have S := S_; clear S_))
        obtain ⟨i0, hi0, hz0, hz1, hz2⟩ := info_parts byte_info
        have HO := Aside0.mk S.out.own
        have hsz := S.out.ap.size
        have hy9 : (y : Int) < 256 := by omega
        obtain ⟨ys, hys⟩ : ∃ ys, ys = bi (bytesS s L) := ⟨_, rfl⟩
        rw [← hys] at HO S
        have HYS := Aside0.mk hys
        clear hys
        go_wp2_with (first | (at_builtin; refine wpList_append_lies _ rfl _ _ _ (by rfl) w.heap.size 5 i0 _ 1 1 Tryd.underlying29 hi0 hz0 hz1 hz2 rfl (by omega) (.slice A L cap) L (ub ys) (by rfl) (HO.out.alloc _) ⟨w1.heap.size, 0, none⟩ 1 1 [.int .u8 (y : Int)] (by rfl) (by rfl) (World.news_of_block (cs := #[.int .u8 (y : Int)]) (t := 5) (fr := (0, 0)) (heap_alloc_new w1 _)) (by simp [Value.oneCell']) (by omega) (by simp only [maxLen]; omega) (by omega) (by simp only [World.size_alloc]; omega) (w1.heap.size + 1) (by simp) ?_; intro gg cap1 w2 hown1 hgrow hat hlt1))
        go_roundg (n - (L + 1))
        case measure => omega
        case rel => exact ⟨L + 1, _, _, j + m, rfl, by omega, R3, ⟨(show ys ++ [(y : Int)] = bi (bytesS s (L + 1)) by rw [HYS.out, HY.out]; exact bytes_next s L) ▸ S.out.stored climb hgrow hown1⟩⟩
      · obtain ⟨l1, l2, l3, l4, l5⟩ := RS.out.mat HH.out hLs e y0
        have hm1 : 1 ≤ ln y := by have h2 := HLP.out; rw [e] at h2; exact h2
        obtain ⟨m, hm⟩ : ∃ m, m = ln y := ⟨_, rfl⟩
        obtain ⟨b0, hb0⟩ : ∃ b0, b0 = (spanF y).1 := ⟨_, rfl⟩
        obtain ⟨st, hst⟩ : ∃ st, st = stepAt s L := ⟨_, rfl⟩
        rw [← hm] at l1 l2 l3 l4 l5 hm1
        rw [← hb0, ← hst] at sp1
        rw [← hst] at l5 hsame hroom
        have L1 := Aside0.mk l1
        have L2 := Aside0.mk l2
        have L3 := Aside0.mk l3
        have L4 := Aside0.mk l4
        have R5 := Aside0.mk l5
        have HM15 := Aside0.mk (show m ≤ 15 by rw [hm]; exact LE.out y)
        have HME := Aside0.mk hm.symm
        have HB0 := Aside0.mk hb0.symm
        have HSP2 := Aside0.mk sp2
        have HA9 := Aside0.mk a9
        have HF := Aside0.mk hf
        have HSAME := Aside0.mk hsame
        have HSP1 := Aside0.mk sp1
        have HST1 := Aside0.mk (show 1 ≤ st by rw [hst]; exact stepAt_pos s L)
        have hroom2 : (L : Int) + st ≤ n := by have := HN.out; omega
        have hbst : (b0 : Int) + a = st := by omega
        have hb9 : b0 ≤ 1000 := by
          rw [hb0]
          unfold spanF
          split
          · show y - 253 ≤ 1000
            omega
          · have h3 := baseN_small (k := y - 264) (by omega)
            show baseN (y - 264) ≤ 1000
            omega
        have ha9 : a < 256 := by
          have h8 : 2 ^ x ≤ 2 ^ 8 := Nat.pow_le_pow_right (by omega) x8
          have h9 : (2 : Nat) ^ 8 = 256 := by decide
          omega
        have HST := Aside0.mk hbst
        have HROOM := Aside0.mk hroom2
        have hfi : (L : Int) - b - 1 = f := by omega
        have HFI := Aside0.mk hfi
        clear l1 l2 l3 l4 l5 hm e hst hLs HM HLP RS hb0 sp1 sp2 a9 hf hsame hroom hroom2 hbst hfi
        have hn256 : ¬ (y : Int) < 256 := by omega
        go_upto_region 6 with (first | (go_at_call 76; (with_reducible refine (code_x p q R j y m ln D dn dc _ S.out.br (DD.out.move S.out.ap) HK.out y1 HME.out hm1 HM15.out (by have := L4.out; omega) L1.out).mono ?_); rintro _ w1 ⟨rfl, S', A'⟩; have S_ := Aside0.mk (S.out.call S' A'); clear S S' A'; have S := S_; clear S_))
        go_upto_region 10 with (first
          | (go_at_call 77; (with_reducible refine (span_xb y b0 x _ y0 y1 (HG.out.ap S.out.ap hq) HB0.out HSP2.out).mono ?_); rintro _ w2 ⟨rfl, hbel⟩; have S_ := Aside0.mk (S.out.up hbel); clear S hbel; have S := S_; clear S_)
          | (go_at_call 78; (with_reducible refine (number_xb15 q R (j + m + x) b _ S.out.br L4.out b9 L3.out).mono ?_); rintro _ w4 ⟨rfl, S', A'⟩; have S_ := Aside0.mk (S.out.call S' A'); clear S S' A'; have S := S_; clear S_)
          | (go_at_call 78; (with_reducible refine (number_xb q R (j + m) x a _ (by omega) S.out.br (by have := L4.out; omega) HA9.out L2.out).mono ?_); rintro _ w3 ⟨rfl, S', A'⟩; have S_ := Aside0.mk (S.out.call S' A'); clear S S' A'; have S := S_; clear S_))
        have c2 : ¬ (a : Int) < 0 := by omega
        have c3 : ¬ (b : Int) < 0 := by omega
        have c4 : ¬ (L : Int) - b - 1 < 0 := by have := HFI.out; omega
        have c5 : ¬ (n : Int) - L < (b0 : Int) + a := by have := HST.out; have := HROOM.out; omega
        go_wp2
        go_loopg [8, 71] st (fun kq v8 v71 w' => ∃ (e : Nat) (A : Option Addr) (cap : Nat), v8 = .slice A (L + e) cap ∧ v71 = .int .i64 (e : Int) ∧ e + kq = st ∧ Aside0 (Ukx w w' q R (j + m + x + 15) A (L + e) cap (bi (bytesS s (L + e)))))
        case atStart => exact ⟨0, A, cap, rfl, rfl, by omega, ⟨S.out.up climb⟩⟩
        case round =>
          clear S c4 c5
          obtain ⟨e1, A1, cap1, rfl, rfl, hk1, S⟩ := hrel
          by_cases c6 : (e1 : Int) < (b0 : Int) + a
          · have h1 := HST.out
            have h2 := HROOM.out
            have h3 := HFI.out
            have h4 := HSAME.out e1 (by omega)
            have hfe : ((L : Int) - b - 1 + e1).toNat = f + e1 := by omega
            obtain ⟨g', rfl, cv⟩ := S.out.at_ (i := f + e1) (by omega)
            rw [bytes_get (by omega), h4, ← hfe] at cv
            obtain ⟨v, hv⟩ : ∃ v : Int, v = (bnF s (L + e1) : Int) := ⟨_, rfl⟩
            rw [← hv] at cv
            have HV := Aside0.mk hv
            have r3 : 0 ≤ (L : Int) - b - 1 + e1 := by omega
            have r4 : (L : Int) - b - 1 + e1 < (L : Int) + e1 := by omega
            clear hv h4 hfe h1 h3
            obtain ⟨i0, hi0, hz0, hz1, hz2⟩ := info_parts byte_info
            have HO := Aside0.mk S.out.own
            have hsz := S.out.ap.size
            have hL9 : L + e1 ≤ 65535 := by omega
            obtain ⟨ys, hys⟩ : ∃ ys, ys = bi (bytesS s (L + e1)) := ⟨_, rfl⟩
            rw [← hys] at HO S
            have HYS := Aside0.mk hys
            clear hys h2
            go_wp2_with (first | (at_builtin; refine wpList_append_lies _ rfl _ _ _ (by rfl) w.heap.size 5 i0 _ 1 1 Tryd.underlying29 hi0 hz0 hz1 hz2 rfl (by omega) (.slice (some ⟨g', 0, none⟩) (L + e1) cap1) (L + e1) (ub ys) (by rfl) (HO.out.alloc _) ⟨wr.heap.size, 0, none⟩ 1 1 [.int .u8 v] (by rfl) (by rfl) (World.news_of_block (cs := #[.int .u8 v]) (t := 5) (fr := (0, 0)) (heap_alloc_new wr _)) (by simp [Value.oneCell']) (by omega) (by simp only [maxLen]; omega) (by omega) (by simp only [World.size_alloc]; omega) (wr.heap.size + 1) (by simp) ?_; intro gg cap2 w5 hown1 hgrow hat hlt1))
            go_roundg (st - (e1 + 1))
            case measure => have := HST.out; omega
            case rel => have := HST.out; exact ⟨e1 + 1, _, cap2, rfl, by go_num, by omega, ⟨(show ys ++ [v] = bi (bytesS s (L + (e1 + 1))) by rw [HYS.out, HV.out]; exact bytes_next s (L + e1)) ▸ S.out.stored climb hgrow hown1⟩⟩
          · have hst0 := HST.out
            have h2 := HROOM.out
            have h5 := HSP1.out
            have hst1 := HST1.out
            have hest : e1 = st := by omega
            subst hest
            clear hst0
            go_wp2
            go_roundg (n - (L + e1))
            case measure => omega
            case rel => exact ⟨L + e1, A1, cap1, j + m + x + 15, rfl, by omega, R5, S⟩
    · obtain rfl : L = n := by omega
      obtain ⟨z0, z1, z2⟩ := Rst.fin (HN.out ▸ RS.out) HH.out
      have Z2 := Aside0.mk z2
      clear z2
      go_upto_region 22 with (fail)
      have SS := Aside0.mk (S.out.up (w' := _) climb)
      go_loopg [] 8 (fun kq w' => ∃ (k : Nat), 8 * R.size ≤ k + kq ∧ k ≤ 8 * R.size ∧ j ≤ k ∧ Aside0 (Ukx w w' q R k A L cap (bi (bytesS s L))))
      case atStart => exact ⟨j, by omega, by omega, by omega, SS⟩
      case round =>
        clear S
        obtain ⟨k, hkq, hk8', hjk, S⟩ := hrel
        have c1 := S.out.br.c1
        have c0 := S.out.br.c0
        have b2 := S.out.br.sz
        by_cases hj : (k : Int) % 8 = 0
        · have hk8 : k = 8 * R.size := by omega
          go_upto_region 25 with (fail)
          have hz : ¬ (k : Int) < 8 * (R.size : Int) := by omega
          go_upto_region 27 with (go_quiet (fail))
          have ho := S.out.own
          have hcv : ∀ m, (convert 29 9 (.slice A L cap)).run Tryd.prog (wr.drewN m) = .ok (.string s) (wr.drewN m) := fun m => by
            have h9 := bytes_run (own_move (w1 := wr.drewN m) ho (fun _ _ => rfl))
            rw [show bytesS s L = bytesS s s.size by rw [HN.out], str_back] at h9
            exact h9
          clear ho c0 c1
          go_wp2
          go_ret2
          exact ⟨rfl, (S.out.up climb).ap⟩
        · have hlt : k < 8 * R.size := by omega
          have HZ := Aside0.mk (show (rb R k : Int) = 0 by rw [Z2.out k hjk]; rfl)
          go_wp2_with (first | (go_at_call 79; (with_reducible refine (bit_xb q R k 0 _ S.out.br hlt HZ.out).mono ?_); rintro _ w1 ⟨rfl, S', A'⟩; have S_ := Aside0.mk (S.out.call S' A'); clear S S' A'; have S := S_; clear S_))
          go_roundg (8 * R.size - (k + 1))
          case measure => omega
          case rel => exact ⟨k + 1, by omega, by omega, by omega, S⟩
end Go.Proofs.YtefhcgnamfnkbaaDoor.Pr
namespace Go.Proofs.YtefhcgnamfnkbaaDoor.Pr
open Go.RowKit Go.Proofs.YtefhcgnamfnkbaaDoorW.PrintWords Go.Proofs.YtefhcgnamfnkbaaDoorW.PrintLast Go.Proofs.YtefhcgnamfnkbaaDoorW.PrintMore
open Go.Proofs.YtefhcgnamfnkbaaDoor.Sb
set_option linter.unusedVariables false
set_option linter.unusedSimpArgs false
theorem and_15' (x : Nat) (h : x < 9223372036854775808) : bits .and .i64 (x : Int) 15 = ((x % 16 : Nat) : Int) := by
  have h2 := bits_mask .i64 63 (by decide) (fun n h0 h1 => by rw [IntKind.wrap_i64]; omega) 4 (by decide) (x : Int) (by omega) (by omega)
  have h3 : ((2 : Int) ^ 4 - 1) = 15 := by decide
  rw [h3] at h2
  rw [h2, Int.natCast_emod]; rfl
theorem len_val (T : ByteArray) (e v : Nat) (h : e / 2 < T.size) (hv : (T.data.getD (e / 2) 0).toNat / 2 ^ (4 - 4 * (e % 2)) % 16 = v) : bits .and .i64 (wrap64 ((T[e / 2]'h).toNat : Int) / 2 ^ (4 - 4 * (e % 2))) 15 = (v : Int) := by
  have hb := UInt8.toNat_lt (T[e / 2]'h)
  have hw : wrap64 ((T[e / 2]'h).toNat : Int) = ((T[e / 2]'h).toNat : Int) := by unfold wrap64; omega
  have hd : ((T[e / 2]'h).toNat : Int) / 2 ^ (4 - 4 * (e % 2)) = (((T[e / 2]'h).toNat / 2 ^ (4 - 4 * (e % 2)) : Nat) : Int) := by rw [Int.natCast_ediv, Int.natCast_pow]; rfl
  have e1 : T.data.getD (e / 2) 0 = T[e / 2]'h := by
    have h' : e / 2 < T.data.size := h
    rw [← Array.getElem_eq_getD (h := h')]; rfl
  rw [e1] at hv
  rw [hw, hd, and_15' _ (Nat.lt_of_le_of_lt (Nat.div_le_self _ _) (by omega)), hv]
theorem Dx.up {w w' : World} {p q n c : Nat} {ln : Nat → Nat} {A : Option Addr} (h : Dx w p q ln A n c) (k : Below w.heap.size w w') : Dx w' p q ln A n c := h.move (Ap.ofBelow k (Nat.le_refl _))
set_option maxHeartbeats 8000000 in
set_option maxRecDepth 100000 in
theorem unpack_x (P X s : ByteArray) (m : Nat) (w : World) (five : Five P X s.size m) (hc : (m = 0 ∧ X = s) ∨ (m = 1 ∧ Holds X (allB s))) (hs : s.size ≤ 4000) (hX : X.size ≤ 1000000) (hb : Gb w) (hg : 1 ≤ w.heap.size) :
    Calls Tryd.prog 11 #[.string P] w fun r w' => r = .returned (.tuple #[.string s, .int .i64 0]) ∧ Below w.heap.size w w' := by
  obtain ⟨hP, h0, h1, hnum, hmet, hrest, hsz⟩ := five
  clear hsz
  have HG := Aside0.mk hb
  clear hb
  have q1 : (5 : Int) ≤ (P.size : Int) := by omega
  have q2 : (4 : Int) < (P.size : Int) := by omega
  have q3 : (3 : Int) < (P.size : Int) := by omega
  have q4 : (2 : Int) < (P.size : Int) := by omega
  have q5 : (1 : Int) < (P.size : Int) := by omega
  have q6 : (0 : Int) < (P.size : Int) := by omega
  have NUM := Aside0.mk hnum
  have MET := Aside0.mk hmet
  have REST := Aside0.mk hrest
  have HC := Aside0.mk hc
  clear hnum hmet hrest hc
  go_enter Tryd.func11, Tryd.ntmps11
  go_upto_region 6 with (go_quiet (fail))
  rw [or_join _ _ (by have := UInt8.toNat_lt (P[2]'(by omega)); omega) (by have := UInt8.toNat_lt (P[3]'(by omega)); omega), NUM.out, REST.out, MET.out]
  clear NUM MET REST
  obtain ⟨n, hn⟩ : ∃ n, n = s.size := ⟨_, rfl⟩
  have hn2 : n ≤ 4000 := by omega
  rw [← hn]
  have HN := Aside0.mk hn.symm
  clear hn
  rcases HC.out with ⟨rfl, hXs⟩ | ⟨rfl, hH⟩
  · have t3 : X.size = n := by rw [hXs]; exact HN.out
    have HXS := Aside0.mk hXs
    clear hXs
    have t1 : ¬ (X.size : Int) < n := by omega
    have t2 : ¬ (X.size : Int) > n := by omega
    clear t3
    go_wp2
    go_ret2
    exact ⟨by rw [HXS.out]; rfl, climb⟩
  · have HH := Aside0.mk hH
    clear HC
    have t0 : 136 ≤ X.size := by have h2 := hH.size; have h3 := allB_len s; omega
    have t1 : ¬ (X.size : Int) < 136 := by omega
    obtain ⟨ln, hln⟩ : ∃ ln, ln = lnS s := ⟨_, rfl⟩
    have HLN := Aside0.mk hln
    have HV := Aside0.mk (show ∀ i, i < 272 → (X.data.getD (i / 2) 0).toNat / 2 ^ (4 - 4 * (i % 2)) % 16 = ln i from hln ▸ fun i hi => Holds.len (b := tokB (lnS s) (tokF s 0)) hH (lnS_le s) hi)
    have HD := Aside0.mk (show decide ((sumTo ln 15 : Int) ≤ 32768) = true from decide_eq_true (by have := lnS_sum s; rw [hln]; omega))
    have HX2 := Aside0.mk (show Holds (X.extract 136 X.size) (tokB ln (tokF s 0)) from hln ▸ Holds.rest (a := headB (lnS s) 272) hH (by rw [headB_len]) t0)
    clear hln hH
    have hmk : ∀ w, (Instr.makeSlice 63 (.int .i64 272) (.int .i64 272)).run Tryd.prog w = .ok (.slice (some ⟨w.heap.size, 0, none⟩) 272 272) (w.alloc (.cells (madeCells #[.int .i64 0] 272) 3)) := fun w => make_ints 272 (by omega) w
    go_wp2_with (fail)
    go_loopg [67] 272 (fun kq v67 w' => ∃ (e : Nat), v67 = .int .i64 (e : Int) ∧ e + kq = 272 ∧ Aside0 (Ix w' w.heap.size 272 (fun j => if j < e then (ln j : Int) else 0)) ∧ Aside0 (Below w.heap.size w w'))
    case atStart => exact ⟨0, rfl, rfl, ⟨(Ix.made _ 272).cong (fun i _ => by rw [if_neg (by omega)])⟩, ⟨climb⟩⟩
    case round =>
      obtain ⟨e, rfl, hk, S, SB⟩ := hrel
      by_cases he : e < 272
      · obtain ⟨g2, hg2⟩ : ∃ g2, gk = g2 + 1 := ⟨gk - 1, by omega⟩
        have HG2 := Aside0.mk hg2
        clear hg2
        have fr := S.out.free e
        have co := S.out.at_ he
        generalize (if e < e then (ln e : Int) else 0) = v0 at co
        have r1 : 0 ≤ (e : Int) / 2 := by omega
        have r2 : (e : Int) / 2 < (X.size : Int) := by omega
        have r3 : 0 ≤ 4 - 4 * ((e : Int) % 2) := by omega
        have LV := Aside0.mk (len_val X e (ln e) (by omega) (HV.out e he))
        go_wp2_with (fail)
        rw [LV.out]
        go_roundg g2
        case measure => have := HG2.out; omega
        case rel =>
          have := HG2.out
          exact ⟨e + 1, by go_num, by omega, ⟨S.out.put e (fun i hi => by
            by_cases hie : i = e
            · subst hie; rw [if_pos (by omega), if_pos rfl]
            · rw [if_neg hie]
              by_cases h2 : i < e
              · rw [if_pos (by omega), if_pos h2]
              · rw [if_neg (by omega), if_neg h2])⟩, ⟨below_set SB.out (Nat.le_refl _)⟩⟩
      · have S2 := Aside0.mk (S.out.cong (F' := fun j => (ln j : Int)) (fun i hi => by rw [if_pos (by omega)]))
        clear S
        have S := S2
        clear S2
        go_upto_region 25 with (first | (go_at_call 31; (with_reducible refine (codes_x w.heap.size ln _ S.out).mono ?_); rintro _ w1 ⟨q0, rfl, _, hbel⟩; rw [HD.out]; have S_ := Aside0.mk (S.out.up hbel); have SB_ := Aside0.mk (below_step SB.out hbel); clear S SB hbel; have S := S_; have SB := SB_; clear S_ SB_))
        have r1 : (136 : Int) ≤ (X.size : Int) := by omega
        have hT3 : (X.extract 136 X.size).size ≤ 1099511627776 := by simp; omega
        have hqn : w1.heap.size ≠ 0 := by have := SB.out.size; omega
        (try clear h0); (try clear h1); (try clear q1); (try clear q5); (try clear q6); (try clear hmk)
        go_cut [2, 3] (fun v2 v3 wx => v2 = .string s ∧ v3 = .int .i64 0 ∧ Aside0 (Below w.heap.size w wx))
        case first =>
          go_region_held3 (fun _ => True) (exact trivial) (first
            | (go_at_call 34; (with_reducible refine (newDecoder_x w.heap.size ln _ (S.out.up climb)).mono ?_); rintro _ w6 ⟨p, A, nn, c, rfl, hbel, hp0, hp1, hD⟩; have SB6 := Aside0.mk (below_step (bl SB.out) hbel); have hD6 := Aside0.mk hD; have HB6 := Aside0.mk hbel; clear hD hbel)
            | (go_at_call 33; (with_reducible refine (unpacked_x p w1.heap.size (X.extract 136 X.size) s ln A nn c n _ (((Br.new w1 _ hT3).up climb).up HB6.out) (hD6.out _ (.inl (by first | omega | (simp; done) | (simp; omega)))) (HG.out.below hg SB6.out) hqn HLN.out HX2.out HN.out (by omega)).mono ?_); rintro _ w7 ⟨rfl, hA⟩; have SB7 := Aside0.mk (Ap.then SB6.out hA SB.out.size SB6.out.size); clear hA)
            | (go_at_call 33; (with_reducible refine (unpacked_x p w6.heap.size (X.extract 136 X.size) s ln A nn c n _ (Br.new w6 _ hT3) ((hD6.out _ (.inr (Nat.le_refl _))).up climb) (HG.out.below hg (bl SB6.out)) (by have := HB6.out.size; omega) HLN.out HX2.out HN.out (by omega)).mono ?_); rintro _ w7 ⟨rfl, hA⟩; have SB7 := Aside0.mk (Ap.then (bl SB6.out) hA SB6.out.size (by have := SB6.out.size; first | omega | (simp; omega) | (simp only [World.size_alloc]; omega))); clear hA))
          all_goals
            (try go_wp2)
            go_meet
            case rel => exact ⟨rfl, rfl, SB7⟩
        case rest =>
          obtain ⟨rfl, rfl, SB9⟩ := hcut
          go_wp2
          go_ret2
          exact ⟨rfl, bl SB9.out⟩
/-- What was packed is unpacked. -/
theorem unpack_pack (s : ByteArray) (w : World) (hs : s.size ≤ 4000) (hb : Gb w) (hg : 1 ≤ w.heap.size) :
    Calls Tryd.prog 11 #[.string (packF s)] w fun r w' => r = .returned (.tuple #[.string s, .int .i64 0]) ∧ Below w.heap.size w w' := by
  rcases pack_parts hs with h | ⟨T, h, h2, h3⟩
  · exact unpack_x _ s s 0 w h (.inl ⟨rfl, rfl⟩) hs (by omega) hb hg
  · exact unpack_x _ T s 1 w h (.inr ⟨rfl, h2⟩) hs (by omega) hb hg
end Go.Proofs.YtefhcgnamfnkbaaDoor.Pr
