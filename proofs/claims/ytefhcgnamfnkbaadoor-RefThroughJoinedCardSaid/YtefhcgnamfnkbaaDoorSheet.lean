/- cellref.sheet: what it returns, and its walk (a loop that writes into a strings.Builder). -/
import Derived.Test.YtefhcgnamfnkbaaDoorGiven
import Derived.Test.YtefhcgnamfnkbaaDoorBuild
import Derived.Lib.FrozenHead
import Derived.Outline
import Derived.Lib.Hide
import Derived.Test.YtefhcgnamfnkbaaDoorPrx2
namespace Go.Proofs.YtefhcgnamfnkbaaDoor.Pr
open Go.RowKit Go.Proofs.YtefhcgnamfnkbaaDoorW.PrintWords Go.Proofs.YtefhcgnamfnkbaaDoorW.PrintLast Go.Proofs.YtefhcgnamfnkbaaDoorW.PrintMore

/-- What stands behind the first apostrophe: the name, what follows it, and whether the form is right. -/
def unq (acc : List UInt8) : List UInt8 → List UInt8 × List UInt8 × Bool
  | [] => ([], [], false)
  | [c] => if c = 39 then (acc, [], false) else ([], [], false)
  | c :: d :: r => if c = 39 then (if d = 39 then unq (acc ++ [39]) r else if d = 33 then (acc, r, !acc.isEmpty) else (acc, d :: r, false)) else unq (acc ++ [c]) (d :: r)

theorem unq_other (acc : List UInt8) (c : UInt8) (l : List UInt8) (h : ¬ c = 39) : unq acc (c :: l) = unq (acc ++ [c]) l := by
  cases l <;> simp [unq, h]
theorem unq_end (acc : List UInt8) : unq acc [39] = (acc, [], false) := by simp [unq]
theorem unq_two (acc r : List UInt8) : unq acc (39 :: 39 :: r) = unq (acc ++ [39]) r := by simp [unq]
theorem unq_bang (acc r : List UInt8) : unq acc (39 :: 33 :: r) = (acc, r, !acc.isEmpty) := by simp [unq]
theorem unq_last (acc : List UInt8) (d : UInt8) (r : List UInt8) (h : ¬ d = 39) (h2 : ¬ d = 33) : unq acc (39 :: d :: r) = (acc, d :: r, false) := by simp [unq, h, h2]

def cellref_sheet.f (k : Nat) (a0 : ByteArray) : Option (ByteArray × ByteArray × Bool) :=
  if a0.size < 4294967281 then
    (strings_HasPrefix.f a0 ⟨#[39]⟩).bind fun t =>
      if t = true then some (⟨(unq [] (a0.data.toList.drop 1)).1.toArray⟩, ⟨(unq [] (a0.data.toList.drop 1)).2.1.toArray⟩, (unq [] (a0.data.toList.drop 1)).2.2)
      else (strings_Cut.f a0 ⟨#[33]⟩).bind fun c =>
        if c.2.2 = true then
          if a0.toList = [35, 82, 69, 70, 33] then some (⟨#[]⟩, a0, true)
          else (cellref_Plain.f k c.1).bind fun p => some (c.1, c.2.1, p)
        else some (⟨#[]⟩, a0, true)
  else none

theorem cellref_sheet.mono : ∀ a0 k, LeO (cellref_sheet.f k a0) (cellref_sheet.f (k + 1) a0) := by
  intro a0 k
  unfold cellref_sheet.f
  refine LeO.ite ?_ (LeO.none _)
  refine LeO.bind (LeO.refl _) (fun _ => ?_)
  refine LeO.ite (LeO.refl _) ?_
  refine LeO.bind (LeO.refl _) (fun _ => ?_)
  refine LeO.ite (LeO.ite (LeO.refl _) ?_) (LeO.refl _)
  exact LeO.bind (cellref_Plain.mono _ _) (fun _ => LeO.refl _)


theorem bytes_eq {s : ByteArray} {l : List UInt8} (h : s.data.toList = l) : s = ⟨l.toArray⟩ := by
  obtain ⟨⟨m⟩⟩ := s
  simp at h
  rw [h]

/-- strings.CutPrefix at one byte. -/
theorem len_pos (l : List UInt8) : (!l.isEmpty) = decide ((0 : Int) < (l.length : Int)) := by cases l <;> simp <;> omega

theorem bF_drewN {T e : TypeId} {B b : Nat} {bs : List Value} {w : World} (h : Lib.IsBuilderF T e B b bs w) (n : Nat) : Lib.IsBuilderF T e B b bs (w.drewN n) := h

theorem hasp1 (s : ByteArray) (c : UInt8) : stringslite_HasPrefix.f s ⟨#[c]⟩ = some (decide (s.data.toList.head? = some c)) := by
  obtain ⟨⟨l⟩⟩ := s
  unfold stringslite_HasPrefix.f
  cases l with
  | nil => simp [ByteArray.size]
  | cons d r =>
    have e : ((ByteArray.mk ⟨d :: r⟩).extract 0 1).toList = [d] := by
      rw [ByteArray.toList_eq, Lib.extract_data]; simp
    have e2 : (ByteArray.mk #[c]).toList = [c] := by rw [ByteArray.toList_eq]
    have hs : ((ByteArray.mk ⟨d :: r⟩).size : Int) = r.length + 1 := by simp [ByteArray.size]
    have hs2 : ((ByteArray.mk #[c]).size : Int) = 1 := rfl
    rw [hs, hs2, if_pos (by omega), if_pos (by omega), if_pos (by omega)]
    show some (((ByteArray.mk ⟨d :: r⟩).extract 0 1).toList == _) = _
    rw [e, e2]
    by_cases h : d = c
    · subst h; simp
    · simp [h]
theorem cutp (s : ByteArray) (c : UInt8) : strings_CutPrefix.f s ⟨#[c]⟩ = some (if s.data.toList.head? = some c then (⟨(s.data.toList.drop 1).toArray⟩, true) else (s, false)) := by
  unfold strings_CutPrefix.f stringslite_CutPrefix.f
  rw [hasp1]
  simp only [Option.bind_some]
  by_cases h : s.data.toList.head? = some c
  · rw [if_pos h]
    have hs : 1 ≤ s.size := by
      obtain ⟨⟨l⟩⟩ := s
      cases l with
      | nil => simp at h
      | cons d r => simp [ByteArray.size]
    have hs2 : ((ByteArray.mk #[c]).size : Int) = 1 := rfl
    rw [if_pos (by simp [h]), hs2, if_pos (by omega), if_pos (by omega)]
    simp only [Option.bind_some]
    congr 2
    apply bytes_eq
    rw [Lib.extract_data]
    show List.take (s.size - 1) (List.drop 1 s.data.toList) = _
    rw [List.take_of_length_le (by rw [List.length_drop, Array.length_toList]; exact Nat.le_refl _)]
  · rw [if_neg h, if_neg (by simp [h])]
    simp only [Option.bind_some]

set_option maxHeartbeats 1000000 in
theorem sheet_quoted (s : ByteArray) (w : World) (hGl : Gl w) (hs : s.size < 4294967281) (R : List UInt8 × List UInt8 × Bool) (hR : unq [] (s.data.toList.drop 1) = R)
    (hp : strings_HasPrefix.f s ⟨#[39]⟩ = some true) (h1 : 1 ≤ s.size) :
    Calls Tryd.prog 54 #[.string s] w fun e w' => e = .returned (.tuple #[.string ⟨R.1.toArray⟩, .string ⟨R.2.1.toArray⟩, .bool R.2.2]) ∧ Below w.heap.size w w' := by
  have HR := Lib.hid hR
  clear hR
  have hb0 := Lib.IsBuilderF.of (Lib.fresh_isBuilder 84 5 w)
  have HP := Lib.hid hp
  clear hp
  go_enter Tryd.func54, Tryd.ntmps54
  go_wp2_with fail
  refine (strings_HasPrefix.calls s ⟨#[39]⟩ true _ (by repeat (first | exact hGl | apply gl_drewN | apply gl_drew)) HP.out).mono ?_
  rintro e w' ⟨rfl, ⟨n, rfl⟩⟩
  go_wp2_with fail
  have hb0 : Lib.IsBuilderF 84 5 w.heap.size w.heap.size (Lib.byteCells []) ((w.drewN n).alloc (.cells #[.pointer none, .slice none 0 0] 84)) := Lib.IsBuilderF.of (Lib.fresh_isBuilder 84 5 (w.drewN n))
  have hB0 : Below w.heap.size w ((w.drewN n).alloc (.cells #[.pointer none, .slice none 0 0] 84)) := below_alloc (pw_below_drewN (Below.refl _ _) n) _
  have HB0 := Lib.hid hb0
  have HBB0 := Lib.hid hB0
  clear hb0 hB0
  go_loopw [9] (fun v9 wr => ∃ (k : Nat) (acc : List UInt8), v9 = .int .i64 k ∧ 1 ≤ k ∧ k ≤ s.size ∧ acc.length ≤ k ∧ Aside0 (Lib.IsBuilderF 84 5 w.heap.size w.heap.size (Lib.byteCells acc) wr) ∧ Aside0 (Below w.heap.size w wr) ∧ Aside0 (unq acc (s.data.toList.drop k) = R)) (fun v9 _ => s.size - (intOf v9).toNat)
  case atStart => exact ⟨1, [], rfl, Nat.le_refl _, h1, by simp, ⟨HB0.out⟩, ⟨HBB0.out⟩, ⟨HR.out⟩⟩
  case round =>
    clear HB0 HBB0 HR HP
    obtain ⟨k, acc, rfl, hk1, hks, hak, HB, HW, HR⟩ := hrel
    by_cases hlt : k < s.size
    · have hR := HR.out
      rw [List.drop_eq_getElem_cons (by simpa using hlt)] at hR
      change unq acc (s[k] :: _) = R at hR
      by_cases hc : s[k] = 39
      · rw [hc] at hR
        have hc0 : (((s[k]).toNat : Int) != 39) = false := by rw [hc]; rfl
        by_cases h2 : k + 1 < s.size
        · rw [List.drop_eq_getElem_cons (by simpa using h2)] at hR
          change unq acc (39 :: s[k + 1] :: _) = R at hR
          by_cases hd : s[k + 1] = 39
          · rw [hd, unq_two] at hR
            have hd0 : (((s[k + 1]).toNat : Int) == 39) = true := by rw [hd]; rfl
            have HR2 : Aside0 (unq (acc ++ [39]) (s.data.toList.drop (k + 2)) = R) := ⟨hR⟩
            clear hR HR hc hd
            go_wp2_with (go_at_call 58; refine (Tryd.Builder_WriteByte_k w.heap.size w.heap.size (Lib.byteCells acc) _ wr HB.out (by rw [Lib.byteCells_length]; omega) HW.out.size).mono ?_)
            rintro e w1 ⟨rfl, hb1, hB1, _⟩
            have HB1 : Aside0 (Lib.IsBuilderF 84 5 w.heap.size w.heap.size (Lib.byteCells (acc ++ [39])) w1) := ⟨by
              rw [Lib.byteCells_append]; exact Or.inr hb1⟩
            have HW1 : Aside0 (Below w.heap.size w w1) := ⟨HW.out.trans hB1⟩
            clear hb1 hB1 HB HW
            go_wp2
            go_roundw
            case rel => exact ⟨k + 2, acc ++ [39], by go_num, by omega, by omega, by simp; omega, ⟨HB1.out⟩, ⟨HW1.out⟩, ⟨HR2.out⟩⟩
            case measure => simp [intOf]; omega
          · have hd0 : (((s[k + 1]).toNat : Int) == 39) = false := by
              rw [beq_eq_false_iff_ne]; intro e; apply hd; apply UInt8.toNat_inj.1; simp; omega
            have hx : (s.extract (k + 1) s.size).data.toList = s[k + 1] :: s.data.toList.drop (k + 2) := by
              rw [Lib.extract_data, List.take_of_length_le (by rw [List.length_drop, Array.length_toList]; exact Nat.le_refl _), List.drop_eq_getElem_cons (by simpa using h2)]; rfl
            by_cases hg : s[k + 1] = 33
            · rw [hg, unq_bang] at hR
              have hq : strings_CutPrefix.f (s.extract (k + 1) s.size) ⟨#[33]⟩ = some (⟨(s.data.toList.drop (k + 2)).toArray⟩, true) := by
                rw [cutp, hx, hg]; simp
              have HQ := Aside0.mk hq
              have HR2 := Aside0.mk hR
              clear hR HR hc hd hx hg hq
              go_wp2_with fail
              refine (strings_CutPrefix.calls _ _ _ _ _ (gl_below hGl (by first | exact HW.out | exact (pw_below_drewN HW.out _))) HQ.out).mono ?_
              rintro e w2 ⟨rfl, ⟨m, rfl⟩⟩
              go_wp2_with fail
              refine (Tryd.Builder_String_any_k w.heap.size w.heap.size acc _ (bF_drewN HB.out m) (HW.out.size)).mono ?_
              rintro e w3 ⟨rfl, hb3, hB3, _⟩
              have HB3 := Aside0.mk hb3
              have HW3 : Aside0 (Below w.heap.size w w3) := ⟨(pw_below_drewN HW.out m).trans hB3⟩
              clear hb3 hB3 HB HW
              go_wp2_with fail
              refine (Tryd.Builder_Len_f w.heap.size w.heap.size _ w3 HB3.out).mono ?_
              rintro e w4 ⟨rfl, rfl⟩
              rw [Lib.byteCells_length]
              go_wp2_with fail
              go_ret3
              rw [← HR2.out]
              exact ⟨by first | rfl | (simp only [len_pos]; rfl) | simp [len_pos], HW3.out⟩
            · rw [unq_last _ _ _ hd hg] at hR
              have hq : strings_CutPrefix.f (s.extract (k + 1) s.size) ⟨#[33]⟩ = some (s.extract (k + 1) s.size, false) := by
                rw [cutp, hx]; simp [hg]
              have hx2 : R = (acc, (s.extract (k + 1) s.size).data.toList, false) := by rw [← hR, hx]
              have HQ := Aside0.mk hq
              have HR2 := Aside0.mk hx2
              clear hR HR hc hd hx hg hq hx2
              go_wp2_with fail
              refine (strings_CutPrefix.calls _ _ _ _ _ (gl_below hGl (by first | exact HW.out | exact (pw_below_drewN HW.out _))) HQ.out).mono ?_
              rintro e w2 ⟨rfl, ⟨m, rfl⟩⟩
              go_wp2_with fail
              refine (Tryd.Builder_String_any_k w.heap.size w.heap.size acc _ (bF_drewN HB.out m) (HW.out.size)).mono ?_
              rintro e w3 ⟨rfl, hb3, hB3, _⟩
              have HW3 : Aside0 (Below w.heap.size w w3) := ⟨(pw_below_drewN HW.out m).trans hB3⟩
              clear hb3 hB3 HB HW
              go_wp2
              go_ret3
              rw [HR2.out]
              exact ⟨rfl, HW3.out⟩
        · have hnil : s.data.toList.drop (k + 1) = [] := List.drop_of_length_le (by rw [Array.length_toList]; show s.size ≤ _; omega)
          rw [hnil, unq_end] at hR
          have hx : (s.extract (k + 1) s.size).data.toList = [] := by rw [Lib.extract_data, hnil, List.take_nil]
          have hq : strings_CutPrefix.f (s.extract (k + 1) s.size) ⟨#[33]⟩ = some (s.extract (k + 1) s.size, false) := by
            rw [cutp, hx]; simp
          have hx2 : R = (acc, (s.extract (k + 1) s.size).data.toList, false) := by rw [← hR, hx]
          have HQ := Aside0.mk hq
          have HR2 := Aside0.mk hx2
          clear hR HR hc hx hq hx2 hnil
          go_wp2_with fail
          refine (strings_CutPrefix.calls _ _ _ _ _ (gl_below hGl (by first | exact HW.out | exact (pw_below_drewN HW.out _))) HQ.out).mono ?_
          rintro e w2 ⟨rfl, ⟨m, rfl⟩⟩
          go_wp2_with fail
          refine (Tryd.Builder_String_any_k w.heap.size w.heap.size acc _ (bF_drewN HB.out m) (HW.out.size)).mono ?_
          rintro e w3 ⟨rfl, hb3, hB3, _⟩
          have HW3 : Aside0 (Below w.heap.size w w3) := ⟨(pw_below_drewN HW.out m).trans hB3⟩
          clear hb3 hB3 HB HW
          go_wp2
          go_ret3
          rw [HR2.out]
          exact ⟨rfl, HW3.out⟩
      · have hc1 : (((s[k]).toNat : Int) != 39) = true := by
          rw [bne_iff_ne]; intro e; apply hc; apply UInt8.toNat_inj.1; simp; omega
        have HR2 : Aside0 (unq (acc ++ [s[k]]) (s.data.toList.drop (k + 1)) = R) := ⟨by
          rw [← hR]
          exact (unq_other acc _ _ hc).symm⟩
        clear hR HR hc
        go_wp2_with (go_at_call 58; refine (Tryd.Builder_WriteByte_k w.heap.size w.heap.size (Lib.byteCells acc) _ wr HB.out (by rw [Lib.byteCells_length]; omega) HW.out.size).mono ?_)
        rintro e w1 ⟨rfl, hb1, hB1, _⟩
        have HB1 : Aside0 (Lib.IsBuilderF 84 5 w.heap.size w.heap.size (Lib.byteCells (acc ++ [s[k]])) w1) := ⟨by
          rw [Lib.byteCells_append]; exact Or.inr hb1⟩
        have HW1 : Aside0 (Below w.heap.size w w1) := ⟨HW.out.trans hB1⟩
        clear hb1 hB1 HB HW
        go_wp2
        go_roundw
        case rel => exact ⟨k + 1, acc ++ [s[k]], by go_num, by omega, by omega, by simp; omega, ⟨HB1.out⟩, ⟨HW1.out⟩, ⟨HR2.out⟩⟩
        case measure => simp [intOf]; omega
    · have hk : k = s.size := by omega
      have hR := HR.out
      have hnil : s.data.toList.drop k = [] := List.drop_of_length_le (by simp; omega)
      rw [hnil] at hR
      have HR2 := Aside0.mk (show R = ([], [], false) from hR.symm)
      clear hR HR hk hnil
      go_wp2
      go_ret3
      rw [HR2.out]
      exact ⟨rfl, HW.out⟩

set_option maxHeartbeats 1000000 in
theorem cellref_sheet.calls (k : Nat) (a0 : ByteArray) (r1 : ByteArray) (r2 : ByteArray) (r3 : Bool) (w : World) (hGl : Gl w) (h : cellref_sheet.f k a0 = some (r1, r2, r3)) :
    Calls Tryd.prog 54 #[.string a0] w fun e w' => e = .returned (.tuple #[.string r1, .string r2, .bool r3]) ∧ Below w.heap.size w w' := by
  unfold cellref_sheet.f at h
  split at h
  · rename_i hs
    obtain ⟨b, hb, h⟩ := bsm h
    cases b with
    | true =>
      have h1 : 1 ≤ a0.size := by
        rcases Nat.eq_zero_or_pos a0.size with h0 | h0
        · exfalso
          unfold strings_HasPrefix.f at hb
          rw [hasp1] at hb
          have : a0.data.toList = [] := by apply List.eq_nil_of_length_eq_zero; rw [Array.length_toList]; exact h0
          rw [this] at hb
          simp at hb
        · exact h0
      simp only [if_true, Option.some.injEq, Prod.mk.injEq] at h
      obtain ⟨rfl, rfl, rfl⟩ := h
      exact sheet_quoted a0 w hGl hs _ rfl hb h1
    | false =>
      simp only [Bool.false_eq_true, if_false] at h
      obtain ⟨⟨c1, c2, c3⟩, hc, h⟩ := bsm h
      have HP := Lib.hid hb
      have HC := Lib.hid hc
      clear hb hc
      cases c3 with
      | true =>
        simp only [if_true] at h
        split at h
        · rename_i hq
          simp only [Option.some.injEq, Prod.mk.injEq] at h
          obtain ⟨rfl, rfl, rfl⟩ := h
          go_enter Tryd.func54, Tryd.ntmps54
          go_wp2_with fail
          refine (strings_HasPrefix.calls a0 ⟨#[39]⟩ false _ (by repeat (first | exact hGl | apply gl_drewN | apply gl_drew)) HP.out).mono ?_
          rintro e w' ⟨rfl, ⟨n, rfl⟩⟩
          go_wp2_with fail
          refine (strings_Cut.calls a0 ⟨#[33]⟩ _ _ _ _ (by repeat (first | exact hGl | apply gl_drewN | apply gl_drew)) HC.out).mono ?_
          rintro e w' ⟨rfl, ⟨m, rfl⟩⟩
          go_wp2_with fail
          go_ret3
          exact ⟨rfl, pw_below_drewN (Below.refl _ _) _⟩
        · rename_i hq
          obtain ⟨p, hp, h⟩ := bsm h
          simp only [Option.some.injEq, Prod.mk.injEq] at h
          obtain ⟨rfl, rfl, rfl⟩ := h
          have HPL := Lib.hid hp
          have hq0 : (a0.toList == [35, 82, 69, 70, 33]) = false := beq_eq_false_iff_ne.2 hq
          clear hp hq
          go_enter Tryd.func54, Tryd.ntmps54
          go_wp2_with fail
          refine (strings_HasPrefix.calls a0 ⟨#[39]⟩ false _ (by repeat (first | exact hGl | apply gl_drewN | apply gl_drew)) HP.out).mono ?_
          rintro e w' ⟨rfl, ⟨n, rfl⟩⟩
          go_wp2_with fail
          refine (strings_Cut.calls a0 ⟨#[33]⟩ _ _ _ _ (by repeat (first | exact hGl | apply gl_drewN | apply gl_drew)) HC.out).mono ?_
          rintro e w' ⟨rfl, ⟨m, rfl⟩⟩
          go_wp2_with fail
          refine (cellref_Plain.calls k _ _ _ (by repeat (first | exact hGl | apply gl_drewN | apply gl_drew)) HPL.out).mono ?_
          rintro e w' ⟨rfl, ⟨q, rfl⟩⟩
          go_wp2
          go_ret3
          exact ⟨rfl, pw_below_drewN (Below.refl _ _) _⟩
      | false =>
        simp only [Bool.false_eq_true, if_false, Option.some.injEq, Prod.mk.injEq] at h
        obtain ⟨rfl, rfl, rfl⟩ := h
        go_enter Tryd.func54, Tryd.ntmps54
        go_wp2_with fail
        refine (strings_HasPrefix.calls a0 ⟨#[39]⟩ false _ (by repeat (first | exact hGl | apply gl_drewN | apply gl_drew)) HP.out).mono ?_
        rintro e w' ⟨rfl, ⟨n, rfl⟩⟩
        go_wp2_with fail
        refine (strings_Cut.calls a0 ⟨#[33]⟩ _ _ _ _ (by repeat (first | exact hGl | apply gl_drewN | apply gl_drew)) HC.out).mono ?_
        rintro e w' ⟨rfl, ⟨m, rfl⟩⟩
        go_wp2
        go_ret3
        exact ⟨rfl, pw_below_drewN (Below.refl _ _) _⟩
  · cases h
end Go.Proofs.YtefhcgnamfnkbaaDoor.Pr
