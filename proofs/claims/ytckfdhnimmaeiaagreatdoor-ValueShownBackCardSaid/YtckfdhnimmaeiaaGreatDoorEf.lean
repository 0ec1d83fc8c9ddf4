/- value.text of plain letters, flow.Char, value.Lower. -/
import Derived.Test.YtckfdhnimmaeiaaGreatDoorEa
import Derived.Lib.ConvBytes
import Derived.Laws.IdiomStrings
namespace Go.Proofs.YtckfdhnimmaeiaaGreatDoor.Pr
open Go.RowKit Go.Proofs.YtckfdhnimmaeiaaGreatDoorW.PrintWords Go.Proofs.YtckfdhnimmaeiaaGreatDoorW.PrintLast Go.Proofs.YtckfdhnimmaeiaaGreatDoorW.PrintMore
set_option linter.unusedVariables false
set_option linter.unusedSimpArgs false
set_option maxHeartbeats 2000000 in
set_option maxRecDepth 100000 in
theorem char_yes (c : Int) (w : World) (h0 : 32 ≤ c) (h1 : c < 127) :
    Calls Tryz.prog 51 #[.int .i64 c] w fun x w' => x = .returned (.bool true) ∧ Below w.heap.size w w' := by
  have q1 : (c == 9) = false := beq_eq_false_iff_ne.2 (by omega)
  have q2 : (c == 10) = false := beq_eq_false_iff_ne.2 (by omega)
  go_enter Tryz.func51, Tryz.ntmps51
  go_wp2
  go_ret
  exact ⟨rfl, climb⟩
/-- Plain letters. -/
def Plain7 (s : ByteArray) : Prop := ∀ b ∈ s.data.toList, 32 ≤ b.toNat ∧ b.toNat < 127
theorem plain_rest {s : ByteArray} (h : Plain7 s) : Plain7 (s.extract 1 s.size) := fun b hb => by
  have e : (s.extract 1 s.size).data.toList = (s.data.toList.take s.size).drop 1 := by
    rw [ByteArray.data_extract, Array.toList_extract]
    simp [List.drop_take]
  rw [e] at hb
  exact h b (List.mem_of_mem_take (List.mem_of_mem_drop hb))
set_option maxHeartbeats 2000000 in
set_option maxRecDepth 100000 in
theorem text_plain (s : ByteArray) (w : World) (hs : s.size ≤ 32767) (ha : Plain7 s) :
    Calls Tryz.prog 20 #[.string s] w fun x w' => x = .returned (.int .i64 0) ∧ Below w.heap.size w w' := by
  have q : ¬ (s.size : Int) > 32767 := by omega
  have HA := Aside0.mk ha
  clear ha
  go_enter Tryz.func20, Tryz.ntmps20
  go_wp2_with (fail)
  go_loopg [0] s.size (fun kq v0 w' => ∃ (r : ByteArray), v0 = .string r ∧ r.size = kq ∧ Aside0 (Plain7 r) ∧ Aside0 (Below w.heap.size w w'))
  case atStart => exact ⟨s, rfl, rfl, HA, ⟨climb⟩⟩
  case round =>
    clear HA
    obtain ⟨r, rfl, hr, P, B⟩ := hrel
    by_cases h0 : r.size = 0
    · have hq : r.toList.isEmpty = true := by
        rw [ByteArray.toList_eq]
        have : r.data.toList.length = 0 := by rw [Array.length_toList]; exact h0
        rw [List.length_eq_zero_iff.1 this]; rfl
      go_wp2
      go_ret
      exact ⟨rfl, bl B.out⟩
    · have hlen : 0 < r.data.toList.length := by rw [Array.length_toList]; show 0 < r.size; omega
      obtain ⟨x, hx⟩ : ∃ x, r.data.toList[0]? = some x := ⟨_, List.getElem?_eq_getElem hlen⟩
      have hxb := P.out x (List.mem_of_getElem? hx)
      have hq : r.toList.isEmpty = false := by
        rw [ByteArray.toList_eq]
        cases he : r.data.toList with
        | nil => rw [he] at hlen; exact absurd hlen (by decide)
        | cons y l => rfl
      have HX := Aside0.mk hx
      have q1 : ((x.toNat : Int) == 65533) = false := beq_eq_false_iff_ne.2 (by omega)
      have q2 : (1 : Int) ≤ (r.size : Int) := by omega
      have X1 := hxb.1
      have X2 := hxb.2
      clear hx hlen hxb
      go_wp2_with (first
        | (go_at_call 50; (with_reducible refine (Tryz.utf8_DecodeRuneInString_ascii r x _ HX.out (by omega)).mono ?_); rintro _ w1 ⟨rfl, hb1⟩; subst hb1)
        | (go_at_call 51; (with_reducible refine (char_yes (x.toNat : Int) _ (by omega) (by omega)).mono ?_); rintro _ w1 ⟨rfl, hb1⟩; have B_ := Aside0.mk (below_step (bl B.out) hb1); clear B hb1; have B := B_; clear B_))
      go_roundg (gk - 1)
      case measure => omega
      case rel => exact ⟨r.extract 1 r.size, by rw [hr], by simp; omega, ⟨plain_rest P.out⟩, ⟨bl B.out⟩⟩
/-- The bytes of a string at g. -/
def By (w : World) (g : Nat) (s : ByteArray) : Prop := ∀ j, j < s.size → w.cell? ⟨g, j, none⟩ = some (.int .u8 ((s.data.toList.getD j 0).toNat : Int))
theorem By.back {w : World} {g cap : Nat} {s : ByteArray} (h : By w g s) : (convert 97 9 (.slice (some ⟨g, 0, none⟩) s.size cap)).run Tryz.prog w = .ok (.string s) w := by
  have h2 := run_convert_bytes_back (P := Tryz.prog) w 97 9 5 ⟨g, 0, none⟩ cap s.data.toList Tryz.underlying97 Tryz.underlying5 Tryz.underlying9 (fun j hj => by
    have hj' : j < s.size := by rw [Array.length_toList] at hj; exact hj
    have e1 : (⟨g, 0, none⟩ : Addr).add j = ⟨g, j, none⟩ := by unfold Addr.add; by_cases h0 : j = 0 <;> simp [h0]
    rw [e1, h j hj', List.getD_eq_getElem?_getD, List.getElem?_eq_getElem hj]; rfl)
  rw [Array.length_toList] at h2
  exact h2
theorem by_below {w w' : World} {g : Nat} {s : ByteArray} (h : By w g s) (k : Below w.heap.size w w') : By w' g s := fun j hj => (k.cell (World.block_lt_of_cell? w _ (h j hj))).trans (h j hj)
set_option maxHeartbeats 2000000 in
set_option maxRecDepth 100000 in
theorem lower_plain (s : ByteArray) (w : World) (hs : s.size ≤ 1000000) (ha : ∀ j, j < s.size → ¬ (65 ≤ (s.data.toList.getD j 0).toNat ∧ (s.data.toList.getD j 0).toNat ≤ 90)) :
    Calls Tryz.prog 42 #[.string s] w fun x w' => x = .returned (.string s) ∧ Below w.heap.size w w' := by
  have HA := Aside0.mk ha
  clear ha
  obtain ⟨cap, hcap⟩ : ∃ cap, cap = grownCap w s.size 0 5 := ⟨_, rfl⟩
  obtain ⟨W1, hW1⟩ : ∃ W1, W1 = Lib.bytesWorld w 5 s := ⟨_, rfl⟩
  obtain ⟨g, hg⟩ : ∃ g, g = w.heap.size := ⟨_, rfl⟩
  have hcv : (convert 9 97 (.string s)).run Tryz.prog w = .ok (.slice (some ⟨g, 0, none⟩) s.size cap) W1 := by rw [hg, hcap, hW1]; exact Lib.run_convert_string_bytes w 9 97 5 s Tryz.underlying9 Tryz.underlying97 Tryz.underlying5
  have BY := Aside0.mk (show By W1 g s from fun j hj => by rw [hW1, hg]; exact Lib.bytesWorld_cell w 5 s j hj)
  have B := Aside0.mk (show Below w.heap.size w W1 by rw [hW1]; exact ⟨rfl, rfl, rfl, by rw [Lib.bytesWorld_size]; omega, fun j hj => Lib.bytesWorld_at_old w 5 s j hj⟩)
  clear hcap hW1 hg
  go_enter Tryz.func42, Tryz.ntmps42
  go_wp2_with (fail)
  go_loopg [10] s.size (fun kq v10 w' => ∃ (e : Nat), v10 = .int .i64 (e : Int) ∧ e + kq = s.size ∧ Aside0 (By w' g s) ∧ Aside0 (Below w.heap.size w w'))
  case atStart => exact ⟨0, rfl, by omega, ⟨by_below BY.out climb⟩, ⟨bl B.out⟩⟩
  case round =>
    clear BY B hcv
    obtain ⟨e, rfl, hk, BY, B⟩ := hrel
    by_cases he : e < s.size
    · have hc := BY.out e he
      have hn := HA.out e he
      have hb := UInt8.toNat_lt (s.data.toList.getD e 0)
      generalize (s.data.toList.getD e 0).toNat = b at hc hn hb
      have q1 : ¬ (65 ≤ (b : Int) ∧ (b : Int) ≤ 90) := by omega
      by_cases h65 : 65 ≤ (b : Int)
      · have h90 : ¬ (b : Int) ≤ 90 := fun h => q1 ⟨h65, h⟩
        clear q1 hn
        go_wp2
        go_roundg (gk - 1)
        case measure => omega
        case rel => exact ⟨e + 1, by go_num, by omega, ⟨by_below BY.out climb⟩, ⟨bl B.out⟩⟩
      · clear q1 hn
        go_wp2
        go_roundg (gk - 1)
        case measure => omega
        case rel => exact ⟨e + 1, by go_num, by omega, ⟨by_below BY.out climb⟩, ⟨bl B.out⟩⟩
    · have hcv2 := BY.out.back (cap := cap)
      go_wp2
      go_ret
      exact ⟨rfl, bl B.out⟩
end Go.Proofs.YtckfdhnimmaeiaaGreatDoor.Pr
