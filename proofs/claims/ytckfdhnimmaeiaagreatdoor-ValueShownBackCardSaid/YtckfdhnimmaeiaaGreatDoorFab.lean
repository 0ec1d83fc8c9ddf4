/- Small functions that the order of values needs: comparisons, flags, names of faults, text of any string. value.text of any string; value.Lower of any string. -/
import Derived.Test.YtckfdhnimmaeiaaGreatDoorEg
import Derived.Test.YtckfdhnimmaeiaaGreatDoorShelg
import Derived.Shelf.Unicode.DecodeLastEight
import Derived.Laws.Cover1
namespace Go.Proofs.YtckfdhnimmaeiaaGreatDoor.Pr
open Go.RowKit Go.Proofs.YtckfdhnimmaeiaaGreatDoorW.PrintWords Go.Proofs.YtckfdhnimmaeiaaGreatDoorW.PrintLast Go.Proofs.YtckfdhnimmaeiaaGreatDoorW.PrintMore
set_option linter.unusedVariables false
set_option linter.unusedSimpArgs false
set_option maxHeartbeats 2000000 in
set_option maxRecDepth 100000 in
/-- value.FaultText: some text, and none where there is no such fault. -/
theorem fault_any (c : Int) : ∃ f : ByteArray, ∀ w, Fs w → Calls Tryz.prog 21 #[.int .i64 c] w fun r w' => r = .returned (.string f) ∧ Below w.heap.size w w' := by
  by_cases h1 : c < 1
  · refine ⟨⟨#[]⟩, fun w _ => ?_⟩
    go_enter Tryz.func21, Tryz.ntmps21
    go_wp2
    go_ret
    exact ⟨rfl, climb⟩
  · by_cases h9 : 9 ≤ c
    · refine ⟨⟨#[]⟩, fun w _ => ?_⟩
      go_enter Tryz.func21, Tryz.ntmps21
      go_wp2
      go_ret
      exact ⟨rfl, climb⟩
    · obtain ⟨n, rfl⟩ : ∃ n : Nat, c = (n : Int) := ⟨c.toNat, by omega⟩
      obtain ⟨f, hf⟩ : ∃ f, faultsL[n]? = some f := ⟨_, List.getElem?_eq_getElem (by show n < 9; omega)⟩
      refine ⟨f, fun w hF => ?_⟩
      have hc := hF n f hf
      have hn : n < 9 := by omega
      clear hF hf
      go_enter Tryz.func21, Tryz.ntmps21
      go_wp2
      go_ret
      exact ⟨rfl, climb⟩
/-- flow.Char. -/
def charB (c : Int) : Bool := if c = 9 then true else if c = 10 then true else if 32 ≤ c then (if c < 127 then true else if 160 ≤ c then (if c < 55296 then true else if 57343 < c then (if c ≤ 1114111 then true else false) else false) else false) else false
set_option maxHeartbeats 2000000 in
set_option maxRecDepth 100000 in
theorem charB_calls (c : Int) (w : World) : Calls Tryz.prog 51 #[.int .i64 c] w fun x w' => x = .returned (.bool (charB c)) ∧ Below w.heap.size w w' := by
  unfold charB
  by_cases q1 : c = 9
  · rw [if_pos q1]
    subst q1
    go_enter Tryz.func51, Tryz.ntmps51; go_wp2; go_ret; exact ⟨rfl, climb⟩
  by_cases q2 : c = 10
  · rw [if_neg q1, if_pos q2]
    subst q2
    go_enter Tryz.func51, Tryz.ntmps51; go_wp2; go_ret; exact ⟨rfl, climb⟩
  rw [if_neg q1, if_neg q2]
  have e1 : (c == 9) = false := beq_eq_false_iff_ne.2 q1
  have e2 : (c == 10) = false := beq_eq_false_iff_ne.2 q2
  clear q1 q2
  by_cases h1 : 32 ≤ c
  · rw [if_pos h1]
    by_cases h2 : c < 127
    · rw [if_pos h2]
      go_enter Tryz.func51, Tryz.ntmps51; go_wp2; go_ret; exact ⟨rfl, climb⟩
    · rw [if_neg h2]
      by_cases h3 : 160 ≤ c
      · rw [if_pos h3]
        by_cases h4 : c < 55296
        · rw [if_pos h4]
          go_enter Tryz.func51, Tryz.ntmps51; go_wp2; go_ret; exact ⟨rfl, climb⟩
        · rw [if_neg h4]
          by_cases h5 : 57343 < c
          · rw [if_pos h5]
            by_cases h6 : c ≤ 1114111
            · rw [if_pos h6]
              go_enter Tryz.func51, Tryz.ntmps51; go_wp2; go_ret; exact ⟨rfl, climb⟩
            · rw [if_neg h6]
              go_enter Tryz.func51, Tryz.ntmps51; go_wp2; go_ret; exact ⟨rfl, climb⟩
          · rw [if_neg h5]
            go_enter Tryz.func51, Tryz.ntmps51; go_wp2; go_ret; exact ⟨rfl, climb⟩
      · rw [if_neg h3]
        have h5 : ¬ 57343 < c := by omega
        go_enter Tryz.func51, Tryz.ntmps51; go_wp2; go_ret; exact ⟨rfl, climb⟩
  · rw [if_neg h1]
    have h3 : ¬ 160 ≤ c := by omega
    have h5 : ¬ 57343 < c := by omega
    go_enter Tryz.func51, Tryz.ntmps51; go_wp2; go_ret; exact ⟨rfl, climb⟩
end Go.Proofs.YtckfdhnimmaeiaaGreatDoor.Pr
namespace Go.Proofs.YtckfdhnimmaeiaaGreatDoor.Pr
open Go.RowKit Go.Proofs.YtckfdhnimmaeiaaGreatDoorW.PrintWords Go.Proofs.YtckfdhnimmaeiaaGreatDoorW.PrintLast Go.Proofs.YtckfdhnimmaeiaaGreatDoorW.PrintMore
set_option linter.unusedVariables false
set_option linter.unusedSimpArgs false
theorem tabs_up {w w' : World} (h : Lib.Utf8Tabs 1 2 w) (k : Below w.heap.size w w') : Lib.Utf8Tabs 1 2 w' :=
  ⟨fun c hc => (k.cell (World.block_lt_of_cell? w _ (h.1 c hc))).trans (h.1 c hc), fun i hi => ⟨(k.cell (World.block_lt_of_cell? w _ (h.2 i hi).1)).trans (h.2 i hi).1, (k.cell (World.block_lt_of_cell? w _ (h.2 i hi).2)).trans (h.2 i hi).2⟩⟩
theorem dec_big (n b0 b1 b2 b3 : Nat) : (Lib.decodeN n b0 b1 b2 b3).1 ≤ 1114111 := by
  unfold Lib.decodeN
  repeat' split
  all_goals (simp only; omega)
theorem dec_one (n b0 b1 b2 b3 : Nat) : 1 ≤ (Lib.decodeN n b0 b1 b2 b3).2 := by
  unfold Lib.decodeN
  repeat' split
  all_goals (simp only; omega)
theorem rune_facts (s : ByteArray) (h : s.size ≠ 0) : (Lib.decodeGo s).1 ≤ 1114111 ∧ 1 ≤ (Lib.decodeGo s).2 := by
  unfold Lib.decodeGo
  rw [if_neg h, Lib.decode_at]
  exact ⟨dec_big _ _ _ _ _, dec_one _ _ _ _ _⟩
/-- value.text, of a rest of the string. -/
noncomputable def textR : Nat → ByteArray → Int
  | 0, _ => 0
  | k + 1, s => if s.size = 0 then 0 else if ((Lib.decodeGo s).1 = 65533 ∧ (Lib.decodeGo s).2 = 1) ∨ charB (Lib.decodeGo s).1 = false then 23 else textR k (s.extract (Lib.decodeGo s).2 s.size)
noncomputable def textF (s : ByteArray) : Int := if 32767 < s.size then 3 else textR (s.size + 1) s
set_option maxHeartbeats 4000000 in
set_option maxRecDepth 100000 in
theorem text_calls (s : ByteArray) (w : World) (hT : Lib.Utf8Tabs 1 2 w) (hs : s.size ≤ maxLen) :
    Calls Tryz.prog 20 #[.string s] w fun x w' => x = .returned (.int .i64 (textF s)) ∧ Below w.heap.size w w' := by
  have HT := Aside0.mk hT
  unfold maxLen at hs
  unfold textF
  clear hT
  by_cases hbig : 32767 < s.size
  · rw [if_pos hbig]
    have q : (s.size : Int) > 32767 := by omega
    go_enter Tryz.func20, Tryz.ntmps20
    go_wp2
    go_ret
    exact ⟨rfl, climb⟩
  rw [if_neg hbig]
  have q : ¬ (s.size : Int) > 32767 := by omega
  obtain ⟨e, he⟩ : ∃ e, e = textR (s.size + 1) s := ⟨_, rfl⟩
  rw [← he]
  have HE := Aside0.mk he
  clear he hs
  go_enter Tryz.func20, Tryz.ntmps20
  go_wp2_with (fail)
  go_loopg [0] s.size (fun kq v0 w' => ∃ (r : ByteArray), v0 = .string r ∧ r.size = kq ∧ r.size ≤ 32767 ∧ Aside0 (∃ fu, r.size < fu ∧ e = textR fu r) ∧ Aside0 (Below w.heap.size w w'))
  case atStart => exact ⟨s, rfl, rfl, by omega, ⟨_, Nat.lt_succ_self _, HE.out⟩, ⟨climb⟩⟩
  case round =>
    clear HE
    obtain ⟨r, rfl, hr, hsm, P, B⟩ := hrel
    by_cases h0 : r.size = 0
    · have hq : r.toList.isEmpty = true := by
        rw [ByteArray.toList_eq]
        have : r.data.toList.length = 0 := by rw [Array.length_toList]; exact h0
        rw [List.length_eq_zero_iff.1 this]; rfl
      have he : e = 0 := by
        obtain ⟨fu, hfu, he⟩ := P.out
        cases fu with
        | zero => omega
        | succ k => rw [he]; unfold textR; rw [if_pos h0]
      subst he
      go_wp2
      go_ret
      exact ⟨rfl, bl B.out⟩
    · have hq : r.toList.isEmpty = false := by
        rw [ByteArray.toList_eq]
        have : 0 < r.data.toList.length := by rw [Array.length_toList]; show 0 < r.size; omega
        cases he : r.data.toList with
        | nil => rw [he] at this; exact absurd this (by decide)
        | cons y l => rfl
      obtain ⟨hc1, hn1⟩ := rune_facts r h0
      have hn2 := Lib.decodeGo_le_size r
      have P2 : Aside0 (∃ k, r.size ≤ k ∧ e = if ((Lib.decodeGo r).1 = 65533 ∧ (Lib.decodeGo r).2 = 1) ∨ charB (Lib.decodeGo r).1 = false then 23 else textR k (r.extract (Lib.decodeGo r).2 r.size)) := by
        obtain ⟨fu, hfu, he⟩ := P.out
        cases fu with
        | zero => omega
        | succ k => exact ⟨k, by omega, by rw [he]; conv => lhs; unfold textR; rw [if_neg h0]⟩
      have DC := Aside0.mk (fun w hT => Tryz.utf8_DecodeRuneInString r w hT)
      clear P
      generalize (Lib.decodeGo r).1 = c at hc1 P2 DC
      generalize (Lib.decodeGo r).2 = n at hn1 hn2 P2 DC
      have CC := Aside0.mk (fun w => charB_calls (c : Int) w)
      have q2 : (n : Int) ≤ (r.size : Int) := by omega
      by_cases hbad : c = 65533 ∧ n = 1
      · obtain ⟨rfl, rfl⟩ := hbad
        have he : e = 23 := by
          obtain ⟨k, _, he⟩ := P2.out
          rw [he, if_pos (Or.inl ⟨rfl, rfl⟩)]
        subst he
        go_wp2_with (first
          | (go_at_call 50; (with_reducible refine (DC.out _ (tabs_up HT.out (bl B.out))).mono ?_); rintro _ w1 ⟨rfl, hb1⟩; have B_ := Aside0.mk (below_step (bl B.out) hb1); clear B hb1; have B := B_; clear B_))
        go_ret
        exact ⟨rfl, bl B.out⟩
      · cases hch : charB (c : Int) with
        | false =>
          have he : e = 23 := by
            obtain ⟨k, _, he⟩ := P2.out
            rw [he, if_pos (Or.inr hch)]
          subst he
          rw [hch] at CC
          by_cases hc : c = 65533
          · have hn : (((n : Nat) : Int) == 1) = false := beq_eq_false_iff_ne.2 (fun h => hbad ⟨hc, by omega⟩)
            subst hc
            have CD := Aside0.mk (show ∀ w, Calls Tryz.prog 51 #[.int .i64 65533] w _ from CC.out)
            clear hbad P2 CC
            have CC := CD
            clear CD
            go_wp2_with (first
              | (go_at_call 50; (with_reducible refine (DC.out _ (tabs_up HT.out (bl B.out))).mono ?_); rintro _ w1 ⟨rfl, hb1⟩; have B_ := Aside0.mk (below_step (bl B.out) hb1); clear B hb1; have B := B_; clear B_)
              | (go_at_call 51; (with_reducible refine (CC.out _).mono ?_); rintro _ w1 ⟨rfl, hb1⟩; have B_ := Aside0.mk (below_step (bl B.out) hb1); clear B hb1; have B := B_; clear B_))
            go_ret
            exact ⟨rfl, bl B.out⟩
          · have hcq : (((c : Nat) : Int) == 65533) = false := beq_eq_false_iff_ne.2 (by omega)
            clear hbad P2
            go_wp2_with (first
              | (go_at_call 50; (with_reducible refine (DC.out _ (tabs_up HT.out (bl B.out))).mono ?_); rintro _ w1 ⟨rfl, hb1⟩; have B_ := Aside0.mk (below_step (bl B.out) hb1); clear B hb1; have B := B_; clear B_)
              | (go_at_call 51; (with_reducible refine (CC.out _).mono ?_); rintro _ w1 ⟨rfl, hb1⟩; have B_ := Aside0.mk (below_step (bl B.out) hb1); clear B hb1; have B := B_; clear B_))
            go_ret
            exact ⟨rfl, bl B.out⟩
        | true =>
          have P3 : Aside0 (∃ fu, (r.extract n r.size).size < fu ∧ e = textR fu (r.extract n r.size)) := by
            obtain ⟨k, hk, he⟩ := P2.out
            refine ⟨k, by rw [ByteArray.size_extract]; omega, ?_⟩
            rw [he, if_neg]
            rintro (h | h)
            · exact hbad h
            · rw [hch] at h; cases h
          rw [hch] at CC
          by_cases hc : c = 65533
          · have hn : (((n : Nat) : Int) == 1) = false := beq_eq_false_iff_ne.2 (fun h => hbad ⟨hc, by omega⟩)
            subst hc
            have CD := Aside0.mk (show ∀ w, Calls Tryz.prog 51 #[.int .i64 65533] w _ from CC.out)
            clear hbad P2 CC
            have CC := CD
            clear CD
            go_wp2_with (first
              | (go_at_call 50; (with_reducible refine (DC.out _ (tabs_up HT.out (bl B.out))).mono ?_); rintro _ w1 ⟨rfl, hb1⟩; have B_ := Aside0.mk (below_step (bl B.out) hb1); clear B hb1; have B := B_; clear B_)
              | (go_at_call 51; (with_reducible refine (CC.out _).mono ?_); rintro _ w1 ⟨rfl, hb1⟩; have B_ := Aside0.mk (below_step (bl B.out) hb1); clear B hb1; have B := B_; clear B_))
            go_roundg (gk - n)
            case measure => omega
            case rel => exact ⟨r.extract n r.size, by rw [hr], by simp; omega, by simp; omega, P3, ⟨bl B.out⟩⟩
          · have hcq : (((c : Nat) : Int) == 65533) = false := beq_eq_false_iff_ne.2 (by omega)
            clear hbad P2
            go_wp2_with (first
              | (go_at_call 50; (with_reducible refine (DC.out _ (tabs_up HT.out (bl B.out))).mono ?_); rintro _ w1 ⟨rfl, hb1⟩; have B_ := Aside0.mk (below_step (bl B.out) hb1); clear B hb1; have B := B_; clear B_)
              | (go_at_call 51; (with_reducible refine (CC.out _).mono ?_); rintro _ w1 ⟨rfl, hb1⟩; have B_ := Aside0.mk (below_step (bl B.out) hb1); clear B hb1; have B := B_; clear B_))
            go_roundg (gk - n)
            case measure => omega
            case rel => exact ⟨r.extract n r.size, by rw [hr], by simp; omega, by simp; omega, P3, ⟨bl B.out⟩⟩
/-- A small letter for a capital one. -/
def lowB (b : UInt8) : UInt8 := if 65 ≤ b.toNat ∧ b.toNat ≤ 90 then b + 32 else b
def lowF (s : ByteArray) : ByteArray := ⟨(s.data.toList.map lowB).toArray⟩
theorem lowB_up {b : UInt8} (h : 65 ≤ b.toNat) (h2 : b.toNat ≤ 90) : ((lowB b).toNat : Int) = (b.toNat : Int) + 32 := by
  unfold lowB
  rw [if_pos ⟨h, h2⟩, UInt8.toNat_add]
  have e : (32 : UInt8).toNat = 32 := rfl
  rw [e]
  omega
theorem lowB_no {b : UInt8} (h : ¬ (65 ≤ b.toNat ∧ b.toNat ≤ 90)) : lowB b = b := if_neg h
theorem low_size (s : ByteArray) : (lowF s).size = s.size := by
  show (s.data.toList.map lowB).toArray.size = s.data.size
  simp
theorem low_at (s : ByteArray) (j : Nat) (h : j < s.size) : (lowF s).data.toList.getD j 0 = lowB (s.data.toList.getD j 0) := by
  have h' : j < s.data.toList.length := by rw [Array.length_toList]; exact h
  show (s.data.toList.map lowB).getD j 0 = _
  rw [List.getD_eq_getElem?_getD, List.getD_eq_getElem?_getD, List.getElem?_map, List.getElem?_eq_getElem h']
  rfl
/-- A row of bytes at g: the first e letters are small. -/
def Lw (w : World) (g : Nat) (s : ByteArray) (e : Nat) : Prop := ∃ cs : Array Value, w.heap[g]? = some (.cells cs 5 (cs.size, cs.size + 1)) ∧ s.size ≤ cs.size ∧ ∀ j, j < s.size → cs[j]? = some (.int .u8 ((if j < e then lowB (s.data.toList.getD j 0) else s.data.toList.getD j 0).toNat : Int))
theorem Lw.up {w w' : World} {g e : Nat} {s : ByteArray} (h : Lw w g s e) (k : Below w.heap.size w w') : Lw w' g s e := by
  obtain ⟨cs, h1, h2, h3⟩ := h
  exact ⟨cs, blk_below h1 k, h2, h3⟩
theorem Lw.cell {w : World} {g e j : Nat} {s : ByteArray} (h : Lw w g s e) (hj : j < s.size) : w.cell? ⟨g, j, none⟩ = some (.int .u8 ((if j < e then lowB (s.data.toList.getD j 0) else s.data.toList.getD j 0).toNat : Int)) ∧ w.frozen? ⟨g, j, none⟩ = false := by
  obtain ⟨cs, h1, h2, h3⟩ := h
  refine ⟨(cell_of_row w g j cs 5 _ h1).trans (h3 j hj), ?_⟩
  simp [World.frozen?, h1]
  omega
theorem Lw.keep {w : World} {g e : Nat} {s : ByteArray} (h : Lw w g s e) (he : e < s.size) (hn : ¬ (65 ≤ (s.data.toList.getD e 0).toNat ∧ (s.data.toList.getD e 0).toNat ≤ 90)) : Lw w g s (e + 1) := by
  obtain ⟨cs, h1, h2, h3⟩ := h
  refine ⟨cs, h1, h2, fun j hj => ?_⟩
  rw [h3 j hj]
  by_cases h4 : j < e
  · rw [if_pos h4, if_pos (by omega)]
  · rw [if_neg h4]
    by_cases h5 : j < e + 1
    · obtain rfl : j = e := by omega
      rw [if_pos h5, lowB_no hn]
    · rw [if_neg h5]
theorem Lw.put {w : World} {g e : Nat} {s : ByteArray} (h : Lw w g s e) (he : e < s.size) (z : Int) (hz : z = ((lowB (s.data.toList.getD e 0)).toNat : Int)) : Lw (w.setCell ⟨g, e, none⟩ (.int .u8 z)) g s (e + 1) := by
  obtain ⟨cs, h1, h2, h3⟩ := h
  refine ⟨cs.setIfInBounds e (.int .u8 z), ?_, by simpa using h2, fun j hj => ?_⟩
  · simp [World.setCell, h1, Array.getElem?_modify]
  · by_cases h4 : j = e
    · subst h4
      rw [if_pos (by omega), Array.getElem?_setIfInBounds, if_pos rfl, if_pos (by omega), hz]
    · rw [Array.getElem?_setIfInBounds, if_neg (fun x => h4 x.symm), h3 j hj]
      by_cases h5 : j < e
      · rw [if_pos h5, if_pos (by omega)]
      · rw [if_neg h5, if_neg (by omega)]
set_option maxHeartbeats 4000000 in
set_option maxRecDepth 100000 in
theorem lower_calls (s : ByteArray) (w : World) (hs : s.size ≤ 1000000) :
    Calls Tryz.prog 42 #[.string s] w fun x w' => x = .returned (.string (lowF s)) ∧ Below w.heap.size w w' := by
  obtain ⟨cap, hcap⟩ : ∃ cap, cap = grownCap w s.size 0 5 := ⟨_, rfl⟩
  obtain ⟨W1, hW1⟩ : ∃ W1, W1 = Lib.bytesWorld w 5 s := ⟨_, rfl⟩
  obtain ⟨g, hg⟩ : ∃ g, g = w.heap.size := ⟨_, rfl⟩
  have hcv : (convert 9 97 (.string s)).run Tryz.prog w = .ok (.slice (some ⟨g, 0, none⟩) s.size cap) W1 := by rw [hg, hcap, hW1]; exact Lib.run_convert_string_bytes w 9 97 5 s Tryz.underlying9 Tryz.underlying97 Tryz.underlying5
  have LW := Aside0.mk (show Lw W1 g s 0 by
    rw [hW1, hg]
    refine ⟨_, Lib.bytesWorld_at_new w 5 s, by simp [Lib.bytesCells], fun j hj => ?_⟩
    rw [if_neg (by omega)]
    have h1 := Lib.bytesWorld_cell w 5 s j hj
    rw [cell_of_row _ _ _ _ _ _ (Lib.bytesWorld_at_new w 5 s)] at h1
    exact h1)
  have B := Aside0.mk (show Below w.heap.size w W1 by rw [hW1]; exact ⟨rfl, rfl, rfl, by rw [Lib.bytesWorld_size]; omega, fun j hj => Lib.bytesWorld_at_old w 5 s j hj⟩)
  have HGG := Aside0.mk (show w.heap.size ≤ g by omega)
  clear hcap hW1 hg
  go_enter Tryz.func42, Tryz.ntmps42
  go_wp2_with (fail)
  go_loopg [10] s.size (fun kq v10 w' => ∃ (e : Nat), v10 = .int .i64 (e : Int) ∧ e + kq = s.size ∧ Aside0 (Lw w' g s e) ∧ Aside0 (Below w.heap.size w w'))
  case atStart => exact ⟨0, rfl, by omega, ⟨LW.out.up climb⟩, ⟨bl B.out⟩⟩
  case round =>
    clear LW B hcv
    obtain ⟨e, rfl, hk, LW, B⟩ := hrel
    by_cases he : e < s.size
    · have HE := Aside0.mk he
      obtain ⟨hc, hfz⟩ := LW.out.cell he
      rw [if_neg (Nat.lt_irrefl e)] at hc
      obtain ⟨b, hb⟩ : ∃ b, b = s.data.toList.getD e 0 := ⟨_, rfl⟩
      have HB := Aside0.mk hb
      rw [← hb] at hc
      have hb2 := UInt8.toNat_lt b
      clear hb
      by_cases h65 : 65 ≤ b.toNat
      · by_cases h90 : b.toNat ≤ 90
        · have q1 : 65 ≤ (b.toNat : Int) := by omega
          have q2 : (b.toNat : Int) ≤ 90 := by omega
          have hz := Aside0.mk (lowB_up h65 h90)
          go_wp2
          go_roundg (gk - 1)
          case measure => omega
          case rel => exact ⟨e + 1, by go_num, by omega, ⟨(LW.out.up climb).put HE.out _ (by rw [← HB.out, hz.out])⟩, ⟨below_set (bl B.out) HGG.out⟩⟩
        · have q1 : 65 ≤ (b.toNat : Int) := by omega
          have q2 : ¬ (b.toNat : Int) ≤ 90 := by omega
          have hz := Aside0.mk h90
          clear h90
          go_wp2
          go_roundg (gk - 1)
          case measure => omega
          case rel => exact ⟨e + 1, by go_num, by omega, ⟨(LW.out.up climb).keep HE.out (by rw [← HB.out]; exact fun h => hz.out h.2)⟩, ⟨bl B.out⟩⟩
      · have q1 : ¬ 65 ≤ (b.toNat : Int) := by omega
        have hz := Aside0.mk h65
        clear h65
        go_wp2
        go_roundg (gk - 1)
        case measure => omega
        case rel => exact ⟨e + 1, by go_num, by omega, ⟨(LW.out.up climb).keep HE.out (by rw [← HB.out]; exact fun h => hz.out h.1)⟩, ⟨bl B.out⟩⟩
    · have hcv2 : (convert 97 9 (.slice (some ⟨g, 0, none⟩) s.size cap)).run Tryz.prog wr = .ok (.string (lowF s)) wr := by
        rw [← low_size s]
        exact By.back (fun j hj => by
          rw [low_size] at hj
          rw [(LW.out.cell hj).1, if_pos (by omega), low_at s j hj])
      go_wp2
      go_ret
      exact ⟨rfl, bl B.out⟩
end Go.Proofs.YtckfdhnimmaeiaaGreatDoor.Pr
