/- cellref.place: what it returns, and its walk. -/
import Derived.Test.YtefhcgnamfnkbaaDoorSheet
import Derived.BigRegion
import Derived.RegionTactic
import Derived.ChangeAlike
import Derived.Test.YtefhcgnamfnkbaaDoorPrx2
namespace Go.Proofs.YtefhcgnamfnkbaaDoor.Pr
open Go.RowKit Go.Proofs.YtefhcgnamfnkbaaDoorW.PrintWords Go.Proofs.YtefhcgnamfnkbaaDoorW.PrintLast Go.Proofs.YtefhcgnamfnkbaaDoorW.PrintMore

def isL (c : UInt8) : Bool := decide (65 ≤ c.toNat ∧ c.toNat ≤ 90) || decide (97 ≤ c.toNat ∧ c.toNat ≤ 122)
def isD (c : UInt8) : Bool := decide (48 ≤ c.toNat ∧ c.toNat ≤ 57)
def cutD (l : List UInt8) : List UInt8 × Bool := if l.head? = some 36 then (l.drop 1, true) else (l, false)
/-- What stands at a place: letters, number, the two dollars, whether the form is right. -/
def placeL (l : List UInt8) : List UInt8 × List UInt8 × Bool × Bool × Bool :=
  let c := cutD l
  let L := c.1.takeWhile isL
  let c2 := if L = [] then (c.1.dropWhile isL, c.2) else cutD (c.1.dropWhile isL)
  let a := if L = [] then false else c.2
  let N := c2.1.takeWhile isD
  (L, N, a, c2.2, (c2.1.dropWhile isD).isEmpty && (decide (L.length ≤ 7) && decide (N.length ≤ 10) && !decide (N.head? = some 48) && (!N.isEmpty || (!L.isEmpty && !c2.2))))
def cellref_place.f (a0 : ByteArray) : Option (ByteArray × ByteArray × Bool × Bool × Bool) :=
  if a0.size < 4294967281 then some (⟨(placeL a0.data.toList).1.toArray⟩, ⟨(placeL a0.data.toList).2.1.toArray⟩, (placeL a0.data.toList).2.2.1, (placeL a0.data.toList).2.2.2.1, (placeL a0.data.toList).2.2.2.2) else none

theorem letter_isL (c : UInt8) : cellref_letter.f (c.toNat : Int) = some (isL c) := by
  have : ∀ n : Fin 256, cellref_letter.f (n.val : Int) = some (decide (65 ≤ n.val ∧ n.val ≤ 90) || decide (97 ≤ n.val ∧ n.val ≤ 122)) := by decide +kernel
  exact this ⟨c.toNat, UInt8.toNat_lt c⟩
theorem digit_isD (c : UInt8) : cellref_digit.f (c.toNat : Int) = some (isD c) := by
  have : ∀ n : Fin 256, cellref_digit.f (n.val : Int) = some (decide (48 ≤ n.val ∧ n.val ≤ 57)) := by decide +kernel
  exact this ⟨c.toNat, UInt8.toNat_lt c⟩
theorem cutD_len (l : List UInt8) : (cutD l).1.length ≤ l.length := by
  unfold cutD; split <;> simp
theorem cutD_of {s s1 : ByteArray} {d1 : Bool} (hcp : strings_CutPrefix.f s ⟨#[36]⟩ = some (s1, d1)) : cutD s.data.toList = (s1.data.toList, d1) := by
  rw [cutp] at hcp
  unfold cutD
  split at hcp <;> (simp only [Option.some.injEq, Prod.mk.injEq] at hcp; obtain ⟨rfl, rfl⟩ := hcp)
  · rename_i hh; rw [if_pos hh]
  · rename_i hh; rw [if_neg hh]
def strLen : Value → Nat | .string s => s.size | _ => 0
theorem list_cons (t : ByteArray) (h : 0 < t.size) : t.data.toList = t[0] :: (t.extract 1 t.size).data.toList := by
  rw [Lib.extract_data, List.take_of_length_le (by rw [List.length_drop, Array.length_toList]; exact Nat.le_refl _)]
  have : 0 < t.data.toList.length := by rw [Array.length_toList]; exact h
  rw [← List.drop_zero (l := t.data.toList), List.drop_eq_getElem_cons this]
  rfl
theorem ex01 (t : ByteArray) (h : 0 < t.size) : (t.extract 0 1).data.toList = [t[0]] := by
  rw [Lib.extract_data, List.drop_zero]
  have := list_cons t h
  rw [this]; rfl
theorem dat_append (a b : ByteArray) : (a ++ b).data.toList = a.data.toList ++ b.data.toList := by simp

set_option maxHeartbeats 4000000 in
set_option maxRecDepth 100000 in
theorem cellref_place.calls (a0 : ByteArray) (r1 : ByteArray) (r2 : ByteArray) (r3 : Bool) (r4 : Bool) (r5 : Bool) (w : World) (hGl : Gl w) (h : cellref_place.f a0 = some (r1, r2, r3, r4, r5)) :
    Calls Tryd.prog 56 #[.string a0] w fun e w' => e = .returned (.tuple #[.agg #[.string r1, .string r2, .bool r3, .bool r4], .bool r5]) ∧ Below w.heap.size w w' := by
  obtain ⟨s1, d1, hcp⟩ : ∃ s1 d1, strings_CutPrefix.f a0 ⟨#[36]⟩ = some (s1, d1) := by rw [cutp]; exact ⟨_, _, rfl⟩
  have hcd : cutD a0.data.toList = (s1.data.toList, d1) := cutD_of hcp
  have hsz : a0.size < 4294967281 := by
    unfold cellref_place.f at h
    split at h
    · assumption
    · cases h
  have hs1 : s1.size ≤ a0.size := by
    have e := cutD_len a0.data.toList
    rw [hcd, Array.length_toList, Array.length_toList] at e
    exact e
  have HR := Aside0.mk h
  have HCP := Aside0.mk hcp
  have HCD := Aside0.mk hcd
  clear h hcp hcd
  go_enter Tryd.func56, Tryd.ntmps56
  go_wp2_with fail
  refine (strings_CutPrefix.calls _ _ _ _ _ (gl_below hGl (below_alloc (below_alloc (Below.refl _ _) _) _)) HCP.out).mono ?_
  rintro e w' ⟨rfl, ⟨n, rfl⟩⟩
  go_upto_block 0 with (fail)
  have hW0 := below_alloc (below_alloc (Below.refl w.heap.size w) (Obj.cells #[Value.string { data := #[] }, Value.string { data := #[] }, Value.bool false, Value.bool false] 107)) (Obj.cells #[Value.string { data := #[] }, Value.string { data := #[] }, Value.bool false, Value.bool false] 107)
  have hK0 := blk_new (w.alloc (Obj.cells #[Value.string { data := #[] }, Value.string { data := #[] }, Value.bool false, Value.bool false] 107)) (Obj.cells #[Value.string { data := #[] }, Value.string { data := #[] }, Value.bool false, Value.bool false] 107)
  have hR0 := blk_alloc (blk_new w (Obj.cells #[Value.string { data := #[] }, Value.string { data := #[] }, Value.bool false, Value.bool false] 107)) (Obj.cells #[Value.string { data := #[] }, Value.string { data := #[] }, Value.bool false, Value.bool false] 107)
  have hS : (w.alloc (Obj.cells #[Value.string { data := #[] }, Value.string { data := #[] }, Value.bool false, Value.bool false] 107)).heap.size = w.heap.size + 1 := by simp
  rw [hS] at hK0
  have hK := blk_put (cs' := #[.string ⟨#[]⟩, .string ⟨#[]⟩, .bool d1, .bool false]) (blk_drewN hK0 n) 2 (.bool d1) rfl
  have hR := blk_far (p := ⟨w.heap.size + 1, 2, none⟩) (blk_drewN hR0 n) (by simp) (.bool d1)
  have hW := (pw_below_drewN hW0 n).setCell (p := ⟨w.heap.size + 1, 2, none⟩) (Nat.le_succ _) (.bool d1)
  have HK := Aside0.mk hK
  have HR2 := Aside0.mk hR
  have HW := Aside0.mk hW
  clear hK hR hW hW0 hK0 hR0 hS
  go_cut [0] (fun v0 wc => ∃ (t L : ByteArray), v0 = .string t ∧ L.size + t.size ≤ s1.size ∧ Aside0 (s1.data.toList.takeWhile isL = L.data.toList ∧ s1.data.toList.dropWhile isL = t.data.toList) ∧ Aside0 (wc.heap[w.heap.size + 1]? = some (.cells #[.string L, .string ⟨#[]⟩, .bool d1, .bool false] 107 (0, 0))) ∧ Aside0 (wc.heap[w.heap.size]? = some (.cells #[.string ⟨#[]⟩, .string ⟨#[]⟩, .bool false, .bool false] 107 (0, 0))) ∧ Aside0 (Below w.heap.size w wc))
  case first =>
    go_wp2
    go_loopw [0] (fun v0 wr => ∃ (t L : ByteArray), v0 = .string t ∧ L.size + t.size ≤ s1.size ∧ Aside0 (s1.data.toList.takeWhile isL = L.data.toList ++ t.data.toList.takeWhile isL ∧ s1.data.toList.dropWhile isL = t.data.toList.dropWhile isL) ∧ Aside0 (wr.heap[w.heap.size + 1]? = some (.cells #[.string L, .string ⟨#[]⟩, .bool d1, .bool false] 107 (0, 0))) ∧ Aside0 (wr.heap[w.heap.size]? = some (.cells #[.string ⟨#[]⟩, .string ⟨#[]⟩, .bool false, .bool false] 107 (0, 0))) ∧ Aside0 (Below w.heap.size w wr)) (fun v0 _ => strLen v0)
    case atStart => exact ⟨s1, ⟨#[]⟩, rfl, by show 0 + _ ≤ _; omega, ⟨by simp⟩, HK, HR2, HW⟩
    case round =>
      clear HK HR2 HW
      obtain ⟨t, L, rfl, hlt, HT, HK, HR2, HW⟩ := hrel
      by_cases h0 : t.size = 0
      · have hnil : t.data.toList = [] := by apply List.eq_nil_of_length_eq_zero; rw [Array.length_toList]; exact h0
        have he : t.toList = [] := by rw [ByteArray.toList_eq]; exact hnil
        have hT := HT.out
        rw [hnil] at hT
        have e1 : (!t.toList.isEmpty) = false := by rw [he]; rfl
        have e2 : t.toList.isEmpty = true := by rw [he]; rfl
        have HT2 : Aside0 (s1.data.toList.takeWhile isL = L.data.toList ∧ s1.data.toList.dropWhile isL = t.data.toList) := ⟨by rw [hnil]; simpa using hT⟩
        clear hT HT hnil he h0
        go_wp2
        go_meet
        case rel => exact ⟨t, L, rfl, hlt, HT2, HK, HR2, HW⟩
      · have hp : 0 < t.size := by omega
        have hcons := list_cons t hp
        have e1 : t.toList.isEmpty = false := by rw [ByteArray.toList_eq, hcons]; rfl
        have e2 : (!t.toList.isEmpty) = true := by rw [e1]; rfl
        have HC := Aside0.mk hcons
        clear hcons h0
        obtain ⟨b, hb⟩ : ∃ b, isL t[0] = b := ⟨_, rfl⟩
        have hle := letter_isL t[0]
        rw [hb] at hle
        have HL := Aside0.mk hle
        have HB := Aside0.mk hb
        clear hb hle
        go_wp2_with fail
        refine (cellref_letter.calls _ b _ (gl_below hGl HW.out) HL.out).mono ?_
        rintro e w' ⟨rfl, ⟨m, rfl⟩⟩
        cases b with
        | true =>
          have c0 := (blk_cell HK.out 0).trans rfl
          have f0 := blk_frozen HK.out 0
          go_wp2
          go_region
          go_wp2
          go_roundw
          case rel =>
            exact ⟨t.extract 1 t.size, L ++ t.extract 0 1, rfl, by rw [ByteArray.size_append, ByteArray.size_extract, ByteArray.size_extract]; omega, ⟨by
              have hT := HT.out
              rw [HC.out, List.takeWhile_cons, List.dropWhile_cons, HB.out] at hT
              rw [dat_append, ex01 t hp]
              simpa using hT⟩, ⟨blk_put (blk_drewN HK.out _) 0 _ rfl⟩, ⟨blk_far (blk_drewN HR2.out _) (by simp) _⟩, ⟨(pw_below_drewN HW.out _).setCell (Nat.le_succ _) _⟩⟩
          case measure => simp [strLen]; omega
        | false =>
          have HT2 : Aside0 (s1.data.toList.takeWhile isL = L.data.toList ∧ s1.data.toList.dropWhile isL = t.data.toList) := ⟨by
            have hT := HT.out
            rw [HC.out, List.takeWhile_cons, List.dropWhile_cons, HB.out] at hT
            rw [HC.out]
            simpa using hT⟩
          go_wp2
          go_meet
          case rel => exact ⟨t, L, rfl, hlt, HT2, ⟨blk_drewN HK.out _⟩, ⟨blk_drewN HR2.out _⟩, ⟨pw_below_drewN HW.out _⟩⟩
  case rest =>
    clear HK HR2 HW
    obtain ⟨t, L, rfl, hlt, HT, HK, HR2, HW⟩ := hcut
    have c0 := (blk_cell HK.out 0).trans rfl
    go_upto_if 29 with (fail)
    go_cut [0] (fun v0 wc => ∃ (t2 : ByteArray) (a r : Bool), v0 = .string t2 ∧ t2.size ≤ s1.size ∧ Aside0 ((if L.data.toList = [] then (t.data.toList, d1) else cutD t.data.toList) = (t2.data.toList, r) ∧ (if L.data.toList = [] then false else d1) = a) ∧ Aside0 (wc.heap[w.heap.size + 1]? = some (.cells #[.string L, .string ⟨#[]⟩, .bool a, .bool r] 107 (0, 0))) ∧ Aside0 (wc.heap[w.heap.size]? = some (.cells #[.string ⟨#[]⟩, .string ⟨#[]⟩, .bool false, .bool false] 107 (0, 0))) ∧ Aside0 (Below w.heap.size w wc))
    case first =>
      have c2 := (blk_cell HK.out 2).trans rfl
      have c3 := (blk_cell HK.out 3).trans rfl
      have f2 := blk_frozen HK.out 2
      have f3 := blk_frozen HK.out 3
      by_cases hL0 : L.data.toList = []
      · have e1 : L.toList.isEmpty = true := by rw [ByteArray.toList_eq, hL0]; rfl
        have e2 : (L.toList == []) = true := by rw [ByteArray.toList_eq, hL0]; rfl
        have HL0 := Aside0.mk hL0
        clear hL0
        rw [e1]
        go_wp2
        go_meet
        case rel => exact ⟨t, false, d1, rfl, by omega, ⟨by rw [if_pos HL0.out], by rw [if_pos HL0.out]⟩, ⟨blk_put (blk_put HK.out 3 (.bool d1) rfl) 2 _ rfl⟩, ⟨blk_far (blk_far HR2.out (by simp) _) (by simp) _⟩, ⟨(HW.out.setCell (Nat.le_succ _) _).setCell (Nat.le_succ _) _⟩⟩
      · have e1 : L.toList.isEmpty = false := by
          rw [ByteArray.toList_eq]
          cases hh : L.data.toList with
          | nil => exact absurd hh hL0
          | cons _ _ => rfl
        have e2 : (L.toList == []) = false := by rw [ByteArray.toList_eq]; exact beq_eq_false_iff_ne.2 hL0
        have HL0 := Aside0.mk hL0
        clear hL0
        rw [e1]
        by_cases h0 : t.size = 0
        · have hnil : t.data.toList = [] := by apply List.eq_nil_of_length_eq_zero; rw [Array.length_toList]; exact h0
          have he : t.toList = [] := by rw [ByteArray.toList_eq]; exact hnil
          have e3 : (!t.toList.isEmpty) = false := by rw [he]; rfl
          have e4 : t.toList.isEmpty = true := by rw [he]; rfl
          have HN := Aside0.mk hnil
          clear hnil he h0
          go_wp2
          go_meet
          case rel => exact ⟨t, d1, false, rfl, by omega, ⟨by rw [if_neg HL0.out, HN.out]; rfl, by rw [if_neg HL0.out]⟩, HK, HR2, HW⟩
        · have hp : 0 < t.size := by omega
          have e4 : t.toList.isEmpty = false := by rw [ByteArray.toList_eq, list_cons t hp]; rfl
          have e3 : (!t.toList.isEmpty) = true := by rw [e4]; rfl
          obtain ⟨s3, d3, hcp3⟩ : ∃ s3 d3, strings_CutPrefix.f t ⟨#[36]⟩ = some (s3, d3) := by rw [cutp]; exact ⟨_, _, rfl⟩
          have hcd3 : cutD t.data.toList = (s3.data.toList, d3) := cutD_of hcp3
          have hl3 : s3.size ≤ t.size := by
            have e := cutD_len t.data.toList
            rw [hcd3, Array.length_toList, Array.length_toList] at e
            exact e
          have HCP3 := Aside0.mk hcp3
          have HCD3 := Aside0.mk hcd3
          clear hcp3 hcd3 h0
          go_wp2_with fail
          refine (strings_CutPrefix.calls _ _ _ _ _ (gl_below hGl HW.out) HCP3.out).mono ?_
          rintro e w' ⟨rfl, ⟨q, rfl⟩⟩
          go_wp2
          go_meet
          case rel => exact ⟨s3, d1, d3, rfl, by omega, ⟨by rw [if_neg HL0.out, HCD3.out], by rw [if_neg HL0.out]⟩, ⟨blk_put (blk_drewN HK.out _) 3 _ rfl⟩, ⟨blk_far (blk_drewN HR2.out _) (by simp) _⟩, ⟨(pw_below_drewN HW.out _).setCell (Nat.le_succ _) _⟩⟩
    case rest =>
      clear HK HR2 HW
      obtain ⟨t2, a, r, rfl, hlt2, HT2, HK, HR2, HW⟩ := hcut
      clear c0
      go_upto_block 2 with (fail)
      go_cut [0] (fun v0 wc => ∃ (t N : ByteArray), v0 = .string t ∧ N.size + t.size ≤ s1.size ∧ Aside0 (t2.data.toList.takeWhile isD = N.data.toList ∧ t2.data.toList.dropWhile isD = t.data.toList) ∧ Aside0 (wc.heap[w.heap.size + 1]? = some (.cells #[.string L, .string N, .bool a, .bool r] 107 (0, 0))) ∧ Aside0 (wc.heap[w.heap.size]? = some (.cells #[.string ⟨#[]⟩, .string ⟨#[]⟩, .bool false, .bool false] 107 (0, 0))) ∧ Aside0 (Below w.heap.size w wc))
      case first =>
        go_wp2
        go_loopw [0] (fun v0 wr => ∃ (t N : ByteArray), v0 = .string t ∧ N.size + t.size ≤ s1.size ∧ Aside0 (t2.data.toList.takeWhile isD = N.data.toList ++ t.data.toList.takeWhile isD ∧ t2.data.toList.dropWhile isD = t.data.toList.dropWhile isD) ∧ Aside0 (wr.heap[w.heap.size + 1]? = some (.cells #[.string L, .string N, .bool a, .bool r] 107 (0, 0))) ∧ Aside0 (wr.heap[w.heap.size]? = some (.cells #[.string ⟨#[]⟩, .string ⟨#[]⟩, .bool false, .bool false] 107 (0, 0))) ∧ Aside0 (Below w.heap.size w wr)) (fun v0 _ => strLen v0)
        case atStart => exact ⟨t2, ⟨#[]⟩, rfl, by show 0 + _ ≤ _; omega, ⟨by simp⟩, HK, HR2, HW⟩
        case round =>
          clear HK HR2 HW
          obtain ⟨t, N, rfl, hlt, HT, HK, HR2, HW⟩ := hrel
          by_cases h0 : t.size = 0
          · have hnil : t.data.toList = [] := by apply List.eq_nil_of_length_eq_zero; rw [Array.length_toList]; exact h0
            have he : t.toList = [] := by rw [ByteArray.toList_eq]; exact hnil
            have hT := HT.out
            rw [hnil] at hT
            have e1 : (!t.toList.isEmpty) = false := by rw [he]; rfl
            have e2 : t.toList.isEmpty = true := by rw [he]; rfl
            have HT3 : Aside0 (t2.data.toList.takeWhile isD = N.data.toList ∧ t2.data.toList.dropWhile isD = t.data.toList) := ⟨by rw [hnil]; simpa using hT⟩
            clear hT HT hnil he h0
            go_wp2
            go_meet
            case rel => exact ⟨t, N, rfl, hlt, HT3, HK, HR2, HW⟩
          · have hp : 0 < t.size := by omega
            have hcons := list_cons t hp
            have e1 : t.toList.isEmpty = false := by rw [ByteArray.toList_eq, hcons]; rfl
            have e2 : (!t.toList.isEmpty) = true := by rw [e1]; rfl
            have HC := Aside0.mk hcons
            clear hcons h0
            obtain ⟨b, hb⟩ : ∃ b, isD t[0] = b := ⟨_, rfl⟩
            have hle := digit_isD t[0]
            rw [hb] at hle
            have HL := Aside0.mk hle
            have HB := Aside0.mk hb
            clear hb hle
            go_wp2_with fail
            refine (cellref_digit.calls _ b _ (gl_below hGl HW.out) HL.out).mono ?_
            rintro e w' ⟨rfl, ⟨m, rfl⟩⟩
            cases b with
            | true =>
              have c0 := (blk_cell HK.out 1).trans rfl
              have f0 := blk_frozen HK.out 1
              go_wp2
              go_region
              go_wp2
              go_roundw
              case rel =>
                exact ⟨t.extract 1 t.size, N ++ t.extract 0 1, rfl, by rw [ByteArray.size_append, ByteArray.size_extract, ByteArray.size_extract]; omega, ⟨by
                  have hT := HT.out
                  rw [HC.out, List.takeWhile_cons, List.dropWhile_cons, HB.out] at hT
                  rw [dat_append, ex01 t hp]
                  simpa using hT⟩, ⟨blk_put (blk_drewN HK.out _) 1 _ rfl⟩, ⟨blk_far (blk_drewN HR2.out _) (by simp) _⟩, ⟨(pw_below_drewN HW.out _).setCell (Nat.le_succ _) _⟩⟩
              case measure => simp [strLen]; omega
            | false =>
              have HT3 : Aside0 (t2.data.toList.takeWhile isD = N.data.toList ∧ t2.data.toList.dropWhile isD = t.data.toList) := ⟨by
                have hT := HT.out
                rw [HC.out, List.takeWhile_cons, List.dropWhile_cons, HB.out] at hT
                rw [HC.out]
                simpa using hT⟩
              go_wp2
              go_meet
              case rel => exact ⟨t, N, rfl, hlt, HT3, ⟨blk_drewN HK.out _⟩, ⟨blk_drewN HR2.out _⟩, ⟨pw_below_drewN HW.out _⟩⟩
      case rest =>
        clear HK HR2 HW
        obtain ⟨t, N, rfl, hlt3, HT3, HK, HR2, HW⟩ := hcut
        obtain ⟨b3, hb3⟩ : ∃ b3, decide (N.data.toList.head? = some 48) = b3 := ⟨_, rfl⟩
        have hhp : strings_HasPrefix.f N ⟨#[48]⟩ = some b3 := by unfold strings_HasPrefix.f; rw [hasp1, hb3]; rfl
        obtain ⟨rfl, rfl, rfl, rfl, h5⟩ : r1 = L ∧ r2 = N ∧ r3 = a ∧ r4 = r ∧ r5 = (t.toList.isEmpty && (decide (L.size ≤ 7) && decide (N.size ≤ 10) && !b3 && (!N.toList.isEmpty || (!L.toList.isEmpty && !r)))) := by
          have hf := HR.out
          unfold cellref_place.f at hf
          rw [if_pos hsz] at hf
          have hpl : placeL a0.data.toList = (L.data.toList, N.data.toList, a, r, (t.toList.isEmpty && (decide (L.size ≤ 7) && decide (N.size ≤ 10) && !b3 && (!N.toList.isEmpty || (!L.toList.isEmpty && !r))))) := by
            unfold placeL
            simp only [HCD.out, HT.out.1, HT.out.2, HT2.out.1, HT2.out.2, HT3.out.1, HT3.out.2, hb3, ByteArray.toList_eq, Array.length_toList]
            rfl
          rw [hpl] at hf
          simp only [Option.some.injEq, Prod.mk.injEq] at hf
          obtain ⟨e1, e2, e3, e4, e5⟩ := hf
          exact ⟨e1.symm, e2.symm, e3.symm, e4.symm, e5.symm⟩
        have H5 := Aside0.mk h5
        have HHP := Aside0.mk hhp
        clear h5 hhp hb3 HR HCD HT HT2 HT3 HCP
        have c0 := (blk_cell HK.out 0).trans rfl
        have c1 := (blk_cell HK.out 1).trans rfl
        have c2 := (blk_cell HK.out 2).trans rfl
        have c3 := (blk_cell HK.out 3).trans rfl
        have d0 := (blk_cell HR2.out 0).trans rfl
        have d1 := (blk_cell HR2.out 1).trans rfl
        have d2 := (blk_cell HR2.out 2).trans rfl
        have d3 := (blk_cell HR2.out 3).trans rfl
        have f0 := blk_frozen HR2.out 0
        have f1 := blk_frozen HR2.out 1
        have f2 := blk_frozen HR2.out 2
        have f3 := blk_frozen HR2.out 3
        by_cases h7 : r1.size ≤ 7
        · have k1 : decide (r1.size ≤ 7) = true := decide_eq_true h7
          have k2 : decide ((r1.size : Int) ≤ 7) = true := decide_eq_true (by omega)
          by_cases h10 : r2.size ≤ 10
          · have k3 : decide (r2.size ≤ 10) = true := decide_eq_true h10
            have k4 : decide ((r2.size : Int) ≤ 10) = true := decide_eq_true (by omega)
            cases b3 with
            | true =>
              cases ht : t.toList.isEmpty
              all_goals
                have k5 : (!t.toList.isEmpty) = !_ := congrArg (!·) ht
                have k6 := HW.out
                go_wp2_with (go_at_call 36; refine (strings_HasPrefix.calls _ _ true _ (gl_below hGl HW.out) HHP.out).mono ?_; rintro e w' ⟨rfl, ⟨q, rfl⟩⟩)
              all_goals
                refine bodyPost_ret (results_ct rfl _ _ w.heap.size 107 #[.string r1, .string r2, .bool r3, .bool r4] (0, 0) _ rfl (by (with_reducible repeat (first | refine blk_drewN ?_ _ | refine blk_drew ?_)); refine blk_put (cs := #[.string r1, .string r2, .bool r3, .bool false]) ?_ 3 _ rfl; (with_reducible repeat (first | refine blk_drewN ?_ _ | refine blk_drew ?_)); refine blk_put (cs := #[.string r1, .string r2, .bool false, .bool false]) ?_ 2 _ rfl; (with_reducible repeat (first | refine blk_drewN ?_ _ | refine blk_drew ?_)); refine blk_put (cs := #[.string r1, .string ⟨#[]⟩, .bool false, .bool false]) ?_ 1 _ rfl; (with_reducible repeat (first | refine blk_drewN ?_ _ | refine blk_drew ?_)); refine blk_put (cs := #[.string ⟨#[]⟩, .string ⟨#[]⟩, .bool false, .bool false]) ?_ 0 _ rfl; (with_reducible repeat (first | refine blk_drewN ?_ _ | refine blk_drew ?_)); exact HR2.out) Tryd.underlying107 rfl (by kernel_rfl)) rfl ?_
                exact ⟨by simp only [H5.out]; simp [*], by repeat (first | exact HW.out | apply pw_below_drewN | apply below_drew1 | refine below_set ?_ (Nat.le_refl _))⟩
            | false =>
              cases hn : r2.toList.isEmpty
              · have k7 : (!r2.toList.isEmpty) = true := by rw [hn]; rfl
                cases ht : t.toList.isEmpty
                all_goals
                  have k5 : (!t.toList.isEmpty) = !_ := congrArg (!·) ht
                  have k6 := HW.out
                  go_wp2_with (go_at_call 36; refine (strings_HasPrefix.calls _ _ false _ (gl_below hGl HW.out) HHP.out).mono ?_; rintro e w' ⟨rfl, ⟨q, rfl⟩⟩)
                all_goals
                  refine bodyPost_ret (results_ct rfl _ _ w.heap.size 107 #[.string r1, .string r2, .bool r3, .bool r4] (0, 0) _ rfl (by (with_reducible repeat (first | refine blk_drewN ?_ _ | refine blk_drew ?_)); refine blk_put (cs := #[.string r1, .string r2, .bool r3, .bool false]) ?_ 3 _ rfl; (with_reducible repeat (first | refine blk_drewN ?_ _ | refine blk_drew ?_)); refine blk_put (cs := #[.string r1, .string r2, .bool false, .bool false]) ?_ 2 _ rfl; (with_reducible repeat (first | refine blk_drewN ?_ _ | refine blk_drew ?_)); refine blk_put (cs := #[.string r1, .string ⟨#[]⟩, .bool false, .bool false]) ?_ 1 _ rfl; (with_reducible repeat (first | refine blk_drewN ?_ _ | refine blk_drew ?_)); refine blk_put (cs := #[.string ⟨#[]⟩, .string ⟨#[]⟩, .bool false, .bool false]) ?_ 0 _ rfl; (with_reducible repeat (first | refine blk_drewN ?_ _ | refine blk_drew ?_)); exact HR2.out) Tryd.underlying107 rfl (by kernel_rfl)) rfl ?_
                  exact ⟨by simp only [H5.out]; simp [*], by repeat (first | exact HW.out | apply pw_below_drewN | apply below_drew1 | refine below_set ?_ (Nat.le_refl _))⟩
              · have k7 : (!r2.toList.isEmpty) = false := by rw [hn]; rfl
                cases hl : r1.toList.isEmpty
                · have k8 : (!r1.toList.isEmpty) = true := by rw [hl]; rfl
                  cases r4 with
                  | true =>
                    cases ht : t.toList.isEmpty
                    all_goals
                      have k5 : (!t.toList.isEmpty) = !_ := congrArg (!·) ht
                      have k6 := HW.out
                      go_wp2_with (go_at_call 36; refine (strings_HasPrefix.calls _ _ false _ (gl_below hGl HW.out) HHP.out).mono ?_; rintro e w' ⟨rfl, ⟨q, rfl⟩⟩)
                    all_goals
                      refine bodyPost_ret (results_ct rfl _ _ w.heap.size 107 #[.string r1, .string r2, .bool r3, .bool true] (0, 0) _ rfl (by (with_reducible repeat (first | refine blk_drewN ?_ _ | refine blk_drew ?_)); refine blk_put (cs := #[.string r1, .string r2, .bool r3, .bool false]) ?_ 3 _ rfl; (with_reducible repeat (first | refine blk_drewN ?_ _ | refine blk_drew ?_)); refine blk_put (cs := #[.string r1, .string r2, .bool false, .bool false]) ?_ 2 _ rfl; (with_reducible repeat (first | refine blk_drewN ?_ _ | refine blk_drew ?_)); refine blk_put (cs := #[.string r1, .string ⟨#[]⟩, .bool false, .bool false]) ?_ 1 _ rfl; (with_reducible repeat (first | refine blk_drewN ?_ _ | refine blk_drew ?_)); refine blk_put (cs := #[.string ⟨#[]⟩, .string ⟨#[]⟩, .bool false, .bool false]) ?_ 0 _ rfl; (with_reducible repeat (first | refine blk_drewN ?_ _ | refine blk_drew ?_)); exact HR2.out) Tryd.underlying107 rfl (by kernel_rfl)) rfl ?_
                      exact ⟨by simp only [H5.out]; simp [*], by repeat (first | exact HW.out | apply pw_below_drewN | apply below_drew1 | refine below_set ?_ (Nat.le_refl _))⟩
                  | false =>
                    cases ht : t.toList.isEmpty
                    all_goals
                      have k5 : (!t.toList.isEmpty) = !_ := congrArg (!·) ht
                      have k6 := HW.out
                      go_wp2_with (go_at_call 36; refine (strings_HasPrefix.calls _ _ false _ (gl_below hGl HW.out) HHP.out).mono ?_; rintro e w' ⟨rfl, ⟨q, rfl⟩⟩)
                    all_goals
                      refine bodyPost_ret (results_ct rfl _ _ w.heap.size 107 #[.string r1, .string r2, .bool r3, .bool false] (0, 0) _ rfl (by (with_reducible repeat (first | refine blk_drewN ?_ _ | refine blk_drew ?_)); refine blk_put (cs := #[.string r1, .string r2, .bool r3, .bool false]) ?_ 3 _ rfl; (with_reducible repeat (first | refine blk_drewN ?_ _ | refine blk_drew ?_)); refine blk_put (cs := #[.string r1, .string r2, .bool false, .bool false]) ?_ 2 _ rfl; (with_reducible repeat (first | refine blk_drewN ?_ _ | refine blk_drew ?_)); refine blk_put (cs := #[.string r1, .string ⟨#[]⟩, .bool false, .bool false]) ?_ 1 _ rfl; (with_reducible repeat (first | refine blk_drewN ?_ _ | refine blk_drew ?_)); refine blk_put (cs := #[.string ⟨#[]⟩, .string ⟨#[]⟩, .bool false, .bool false]) ?_ 0 _ rfl; (with_reducible repeat (first | refine blk_drewN ?_ _ | refine blk_drew ?_)); exact HR2.out) Tryd.underlying107 rfl (by kernel_rfl)) rfl ?_
                      exact ⟨by simp only [H5.out]; simp [*], by repeat (first | exact HW.out | apply pw_below_drewN | apply below_drew1 | refine below_set ?_ (Nat.le_refl _))⟩
                · have k8 : (!r1.toList.isEmpty) = false := by rw [hl]; rfl
                  cases ht : t.toList.isEmpty
                  all_goals
                    have k5 : (!t.toList.isEmpty) = !_ := congrArg (!·) ht
                    have k6 := HW.out
                    go_wp2_with (go_at_call 36; refine (strings_HasPrefix.calls _ _ false _ (gl_below hGl HW.out) HHP.out).mono ?_; rintro e w' ⟨rfl, ⟨q, rfl⟩⟩)
                  all_goals
                    refine bodyPost_ret (results_ct rfl _ _ w.heap.size 107 #[.string r1, .string r2, .bool r3, .bool r4] (0, 0) _ rfl (by (with_reducible repeat (first | refine blk_drewN ?_ _ | refine blk_drew ?_)); refine blk_put (cs := #[.string r1, .string r2, .bool r3, .bool false]) ?_ 3 _ rfl; (with_reducible repeat (first | refine blk_drewN ?_ _ | refine blk_drew ?_)); refine blk_put (cs := #[.string r1, .string r2, .bool false, .bool false]) ?_ 2 _ rfl; (with_reducible repeat (first | refine blk_drewN ?_ _ | refine blk_drew ?_)); refine blk_put (cs := #[.string r1, .string ⟨#[]⟩, .bool false, .bool false]) ?_ 1 _ rfl; (with_reducible repeat (first | refine blk_drewN ?_ _ | refine blk_drew ?_)); refine blk_put (cs := #[.string ⟨#[]⟩, .string ⟨#[]⟩, .bool false, .bool false]) ?_ 0 _ rfl; (with_reducible repeat (first | refine blk_drewN ?_ _ | refine blk_drew ?_)); exact HR2.out) Tryd.underlying107 rfl (by kernel_rfl)) rfl ?_
                    exact ⟨by simp only [H5.out]; simp [*], by repeat (first | exact HW.out | apply pw_below_drewN | apply below_drew1 | refine below_set ?_ (Nat.le_refl _))⟩
          · have k3 : decide (r2.size ≤ 10) = false := decide_eq_false h10
            have k4 : decide ((r2.size : Int) ≤ 10) = false := decide_eq_false (by omega)
            cases ht : t.toList.isEmpty
            all_goals
              have k5 : (!t.toList.isEmpty) = !_ := congrArg (!·) ht
              have k6 := HW.out
              go_wp2
            all_goals
              refine bodyPost_ret (results_ct rfl _ _ w.heap.size 107 #[.string r1, .string r2, .bool r3, .bool r4] (0, 0) _ rfl (by (with_reducible repeat (first | refine blk_drewN ?_ _ | refine blk_drew ?_)); refine blk_put (cs := #[.string r1, .string r2, .bool r3, .bool false]) ?_ 3 _ rfl; (with_reducible repeat (first | refine blk_drewN ?_ _ | refine blk_drew ?_)); refine blk_put (cs := #[.string r1, .string r2, .bool false, .bool false]) ?_ 2 _ rfl; (with_reducible repeat (first | refine blk_drewN ?_ _ | refine blk_drew ?_)); refine blk_put (cs := #[.string r1, .string ⟨#[]⟩, .bool false, .bool false]) ?_ 1 _ rfl; (with_reducible repeat (first | refine blk_drewN ?_ _ | refine blk_drew ?_)); refine blk_put (cs := #[.string ⟨#[]⟩, .string ⟨#[]⟩, .bool false, .bool false]) ?_ 0 _ rfl; (with_reducible repeat (first | refine blk_drewN ?_ _ | refine blk_drew ?_)); exact HR2.out) Tryd.underlying107 rfl (by kernel_rfl)) rfl ?_
              exact ⟨by simp only [H5.out]; simp [*], by repeat (first | exact HW.out | apply pw_below_drewN | apply below_drew1 | refine below_set ?_ (Nat.le_refl _))⟩
        · have k1 : decide (r1.size ≤ 7) = false := decide_eq_false h7
          have k2 : decide ((r1.size : Int) ≤ 7) = false := decide_eq_false (by omega)
          cases ht : t.toList.isEmpty
          all_goals
            have k5 : (!t.toList.isEmpty) = !_ := congrArg (!·) ht
            have k6 := HW.out
            go_wp2
          all_goals
            refine bodyPost_ret (results_ct rfl _ _ w.heap.size 107 #[.string r1, .string r2, .bool r3, .bool r4] (0, 0) _ rfl (by (with_reducible repeat (first | refine blk_drewN ?_ _ | refine blk_drew ?_)); refine blk_put (cs := #[.string r1, .string r2, .bool r3, .bool false]) ?_ 3 _ rfl; (with_reducible repeat (first | refine blk_drewN ?_ _ | refine blk_drew ?_)); refine blk_put (cs := #[.string r1, .string r2, .bool false, .bool false]) ?_ 2 _ rfl; (with_reducible repeat (first | refine blk_drewN ?_ _ | refine blk_drew ?_)); refine blk_put (cs := #[.string r1, .string ⟨#[]⟩, .bool false, .bool false]) ?_ 1 _ rfl; (with_reducible repeat (first | refine blk_drewN ?_ _ | refine blk_drew ?_)); refine blk_put (cs := #[.string ⟨#[]⟩, .string ⟨#[]⟩, .bool false, .bool false]) ?_ 0 _ rfl; (with_reducible repeat (first | refine blk_drewN ?_ _ | refine blk_drew ?_)); exact HR2.out) Tryd.underlying107 rfl (by kernel_rfl)) rfl ?_
            exact ⟨by simp only [H5.out]; simp [*], by repeat (first | exact HW.out | apply pw_below_drewN | apply below_drew1 | refine below_set ?_ (Nat.le_refl _))⟩
end Go.Proofs.YtefhcgnamfnkbaaDoor.Pr
