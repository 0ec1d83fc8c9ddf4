/- exact.exponent where nothing is left, and where no e stands: all that the laws of this seat need of it. -/
import Derived.Test.YtckfdhnimmaeiaaGreatDoorPrx0
import Derived.Test.YtckfdhnimmaeiaaGreatDoorPrx4
import Derived.Test.YtckfdhnimmaeiaaGreatDoorGiven
namespace Go.Proofs.YtckfdhnimmaeiaaGreatDoor.Pr
open Go.RowKit Go.Proofs.YtckfdhnimmaeiaaGreatDoorW.PrintWords Go.Proofs.YtckfdhnimmaeiaaGreatDoorW.PrintLast Go.Proofs.YtckfdhnimmaeiaaGreatDoorW.PrintMore
/-- A text that begins with another byte than e. -/
def expHead (a0 : ByteArray) : Bool := match a0.data.toList with
  | b :: _ => decide (b.toNat ≠ 101) && decide (b.toNat ≠ 69)
  | [] => false
theorem expHead_at {a0 : ByteArray} (h : expHead a0 = true) : ∃ h0 : 0 < a0.size, ¬ (a0[0]'h0).toNat = 101 ∧ ¬ (a0[0]'h0).toNat = 69 := by
  obtain ⟨d⟩ := a0
  obtain ⟨l⟩ := d
  cases l with
  | nil => simp [expHead] at h
  | cons b l =>
    have h' : (decide (b.toNat ≠ 101) && decide (b.toNat ≠ 69)) = true := h
    rw [Bool.and_eq_true, decide_eq_true_eq, decide_eq_true_eq] at h'
    exact ⟨Nat.succ_pos _, h'⟩
/-- exact.exponent of an empty text, and of one without e; nothing is told of other texts. -/
def exact_exponent.f (_k : Nat) (a0 : ByteArray) : Option (Int × Bool) := if a0.toList = ([] : List UInt8) then some (0, true) else if expHead a0 = true then some (0, false) else none
theorem exact_exponent.mono : ∀ a0 k, LeO (exact_exponent.f k a0) (exact_exponent.f (k + 1) a0) := fun _ _ => LeO.refl _
set_option maxHeartbeats 2000000 in
set_option maxRecDepth 100000 in
theorem exact_exponent.calls (k : Nat) (a0 : ByteArray) (r1 : Int) (r2 : Bool) (w : World) (_hGl : Gl w) (h : exact_exponent.f k a0 = some (r1, r2)) :
    Calls Tryz.prog 101 #[.string a0] w fun e w' => e = .returned (.tuple #[.int .i64 r1, .bool r2]) ∧ Below w.heap.size w w' := by
  unfold exact_exponent.f at h
  split at h
  · rename_i hs
    simp only [Option.some.injEq, Prod.mk.injEq] at h
    obtain ⟨rfl, rfl⟩ := h
    have e : a0 = ⟨#[]⟩ := by
      rw [ByteArray.toList_eq] at hs
      obtain ⟨d⟩ := a0
      have : d = #[] := Array.toList_eq_nil_iff.1 hs
      rw [this]
    subst e
    clear hs
    go_enter Tryz.func101, Tryz.ntmps101
    go_wp2
    go_ret2
    exact ⟨rfl, Below.refl _ _⟩
  · rename_i hs
    split at h
    · rename_i hh
      simp only [Option.some.injEq, Prod.mk.injEq] at h
      obtain ⟨rfl, rfl⟩ := h
      obtain ⟨h0, h1, h2⟩ := expHead_at hh
      have q0 : a0.toList.isEmpty = false := by
        cases he : a0.toList with
        | nil => exact absurd he hs
        | cons x l => rfl
      have q1 : (0 : Int) < (a0.size : Int) := by omega
      have q2 : (((a0[0]'h0).toNat : Int) != 101) = true := bne_iff_ne.2 (by omega)
      have q3 : (((a0[0]'h0).toNat : Int) != 69) = true := bne_iff_ne.2 (by omega)
      clear hs hh
      go_enter Tryz.func101, Tryz.ntmps101
      go_wp2
      go_ret2
      exact ⟨rfl, Below.refl _ _⟩
    · cases h
end Go.Proofs.YtckfdhnimmaeiaaGreatDoor.Pr
