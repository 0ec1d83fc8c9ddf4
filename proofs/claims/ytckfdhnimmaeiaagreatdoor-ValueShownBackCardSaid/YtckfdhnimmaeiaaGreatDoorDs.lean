/- Contracts over digits that are only read: where the digits lie is told by one word, Cs, which stays true while memory grows. -/
import Derived.Test.YtckfdhnimmaeiaaGreatDoorPrx11
import Derived.Test.YtckfdhnimmaeiaaGreatDoorPrx12
import Derived.Test.YtckfdhnimmaeiaaGreatDoorPlus
namespace Go.Proofs.YtckfdhnimmaeiaaGreatDoor.Pr
open Go.RowKit Go.Proofs.YtckfdhnimmaeiaaGreatDoorW.PrintWords Go.Proofs.YtckfdhnimmaeiaaGreatDoorW.PrintLast Go.Proofs.YtckfdhnimmaeiaaGreatDoorW.PrintMore
/-- The digits l lie at A. -/
def Cs (w : World) (A : Option Addr) (c : Nat) (l : List Int) : Prop := Kd.V (Kd.int .u32) 69 w 0 (fun _ => True) (.slice A l.length c) l
/-- Memory has only grown. -/
theorem climb {W W' : World} (k : Below W.heap.size W W' := by repeat (first | (with_reducible first | exact Below.refl _ _ | apply below_alloc | apply pw_below_drewN | apply below_drew1) | exact Below.refl _ _)) : Below W.heap.size W W' := k
theorem Cs.up {W W' : World} {A : Option Addr} {c : Nat} {l : List Int} (h : Cs W A c l) (k : Below W.heap.size W W') : Cs W' A c l := Kd.V_below h k
theorem Cs.len {W : World} {A : Option Addr} {c : Nat} {l : List Int} (h : Cs W A c l) : l.length ≤ c := (Kd.V_reads' h).2.1
theorem Cs.reads {W : World} {A : Option Addr} {c : Nat} {l : List Int} (h : Cs W A c l) : Kd.C (Kd.int .u32) W A l.length l := (Kd.V_reads' h).2.2
theorem Cs.to {W : World} {A : Option Addr} {c : Nat} {l : List Int} (h : Cs W A c l) : Kd.V (Kd.int .u32) 69 W W.heap.size (fun _ => True) (.slice A l.length c) l := h
theorem Cs.ofV {W : World} {e base : Nat} {ok : Nat → Prop} {v : Value} {l : List Int} (h : Kd.V (Kd.int .u32) e W base ok v l) : ∃ A c, v = .slice A l.length c ∧ Cs W A c l := by
  obtain ⟨A, c, rfl⟩ := Kd.V_slice h
  exact ⟨A, c, rfl, Kd.V_mono h (fun _ _ => trivial)⟩
theorem Cs.ofR {W : World} {e base : Nat} {ok : Nat → Prop} {v : Value} {l : List Int} (h : Kd.R (Kd.int .u32) e W base ok v l) : ∃ A c, v = .slice A l.length c ∧ Cs W A c l := Cs.ofV (base := base) (Kd.R_V h)
theorem read_cs (k : Nat) (a0 a1 : ByteArray) (m : Bool) (N D : List Int) (e : Int) (W : World) (hGl : Gl W) (h : exact_read.f k a0 a1 = some (m, N, D, e)) :
    Calls Tryz.prog 31 #[.agg #[.string a0, .string a1]] W fun x w' => ∃ A1 c1 A2 c2, x = .returned (.tuple #[.agg #[.bool m, .slice A1 N.length c1, .slice A2 D.length c2], .int .i64 e]) ∧ Cs w' A1 c1 N ∧ Cs w' A2 c2 D ∧ Below W.heap.size W w' := by
  refine (exact_read.calls k a0 a1 m N D e W hGl h).mono ?_
  rintro _ w' ⟨v1, v2, rfl, h1, h2, hb⟩
  obtain ⟨A1, c1, rfl, s1⟩ := Cs.ofV h1
  obtain ⟨A2, c2, rfl, s2⟩ := Cs.ofV h2
  exact ⟨A1, c1, A2, c2, rfl, s1, s2, hb⟩
theorem zero_cs (l : List Int) (r : Bool) (W : World) (hGl : Gl W) (h : exact_nat_zero.f l = some r) {A : Option Addr} {c : Nat} (s : Cs W A c l) :
    Calls Tryz.prog 34 #[.slice A l.length c] W fun x w' => x = .returned (.bool r) ∧ Below W.heap.size W w' :=
  (exact_nat_zero.calls A c l r W s.reads s.len hGl h).mono fun _ _ ⟨he, hd⟩ => ⟨he, hd.below⟩
theorem one_cs (l : List Int) (r : Bool) (W : World) (hGl : Gl W) (h : exact_nat_one.f l = some r) {A : Option Addr} {c : Nat} (s : Cs W A c l) :
    Calls Tryz.prog 32 #[.slice A l.length c] W fun x w' => x = .returned (.bool r) ∧ Below W.heap.size W w' :=
  (exact_nat_one.calls A c l r W s.reads s.len hGl h).mono fun _ _ ⟨he, hd⟩ => ⟨he, hd.below⟩
theorem divide_cs (k : Nat) (l l' q r : List Int) (W : World) (hGl : Gl W) (h : exact_divide.f k l l' = some (q, r)) {A A' : Option Addr} {c c' : Nat} (s : Cs W A c l) (s' : Cs W A' c' l') :
    Calls Tryz.prog 33 #[.slice A l.length c, .slice A' l'.length c'] W fun x w' => ∃ A1 c1 A2 c2, x = .returned (.tuple #[.slice A1 q.length c1, .slice A2 r.length c2]) ∧ Cs w' A1 c1 q ∧ Cs w' A2 c2 r ∧ Below W.heap.size W w' := by
  refine (exact_divide.calls k A c l A' c' l' q r W s.reads s.len s'.reads s'.len hGl h).mono ?_
  rintro _ w' ⟨v1, v2, rfl, h1, h2, hb⟩
  obtain ⟨A1, c1, rfl, s1⟩ := Cs.ofV h1
  obtain ⟨A2, c2, rfl, s2⟩ := Cs.ofV h2
  exact ⟨A1, c1, A2, c2, rfl, s1, s2, hb⟩
theorem common_cs (k : Nat) (l l' r : List Int) (W : World) (hGl : Gl W) (h : exact_common.f k l l' = some r) {A A' : Option Addr} {c c' : Nat} (s : Cs W A c l) (s' : Cs W A' c' l') :
    Calls Tryz.prog 35 #[.slice A l.length c, .slice A' l'.length c'] W fun x w' => ∃ A1 c1, x = .returned (.slice A1 r.length c1) ∧ Cs w' A1 c1 r ∧ Below W.heap.size W w' := by
  refine (exact_common.calls k (fun _ => True) A c l (fun _ => True) A' c' l' r W s.to s'.to hGl h).mono ?_
  rintro _ w' ⟨v1, rfl, h1, hb⟩
  obtain ⟨A1, c1, rfl, s1⟩ := Cs.ofV h1
  exact ⟨A1, c1, rfl, s1, hb⟩
theorem plus_cs (k : Nat) (l l' r : List Int) (W : World) (hGl : Gl W) (h : exact_nat_plus.f k l l' = some r) {A A' : Option Addr} {c c' : Nat} (s : Cs W A c l) (s' : Cs W A' c' l') :
    Calls Tryz.prog 109 #[.slice A l.length c, .slice A' l'.length c'] W fun x w' => ∃ A1 c1, x = .returned (.slice A1 r.length c1) ∧ Cs w' A1 c1 r ∧ Below W.heap.size W w' := by
  refine (exact_nat_plus.calls k A c l A' c' l' r W s.reads s.len s'.reads s'.len hGl h).mono ?_
  rintro _ w' ⟨v1, rfl, h1, hb⟩
  obtain ⟨A1, c1, rfl, s1⟩ := Cs.ofR h1
  exact ⟨A1, c1, rfl, s1, hb⟩
theorem times_cs (k : Nat) (l l' r : List Int) (W : World) (hGl : Gl W) (h : exact_nat_times.f k l l' = some r) {A A' : Option Addr} {c c' : Nat} (s : Cs W A c l) (s' : Cs W A' c' l') :
    Calls Tryz.prog 36 #[.slice A l.length c, .slice A' l'.length c'] W fun x w' => ∃ A1 c1, x = .returned (.slice A1 r.length c1) ∧ Cs w' A1 c1 r ∧ Below W.heap.size W w' := by
  refine (exact_nat_times.calls k A c l A' c' l' r W s.reads s.len s'.reads s'.len hGl h).mono ?_
  rintro _ w' ⟨v1, rfl, h1, hb⟩
  obtain ⟨A1, c1, rfl, s1⟩ := Cs.ofV h1
  exact ⟨A1, c1, rfl, s1, hb⟩
theorem ten_cs (k : Nat) (n : Int) (r : List Int) (W : World) (hGl : Gl W) (h : exact_ten.f k n = some r) :
    Calls Tryz.prog 37 #[.int .i64 n] W fun x w' => ∃ A1 c1, x = .returned (.slice A1 r.length c1) ∧ Cs w' A1 c1 r ∧ Below W.heap.size W w' := by
  refine (exact_ten.calls k n r W hGl h).mono ?_
  rintro _ w' ⟨v1, rfl, h1, hb⟩
  obtain ⟨A1, c1, rfl, s1⟩ := Cs.ofV h1
  exact ⟨A1, c1, rfl, s1, hb⟩
theorem write_cs (k : Nat) (m : Bool) (N D : List Int) (r0 r1 : ByteArray) (e : Int) (W : World) (hGl : Gl W) (h : exact_number_write.f k m N D = some (r0, r1, e)) {A A' : Option Addr} {c c' : Nat} (s : Cs W A c N) (s' : Cs W A' c' D) :
    Calls Tryz.prog 102 #[.agg #[.bool m, .slice A N.length c, .slice A' D.length c']] W fun x w' => x = .returned (.tuple #[.agg #[.string r0, .string r1], .int .i64 e]) ∧ Below W.heap.size W w' :=
  exact_number_write.calls k m A c N A' c' D r0 r1 e W s.reads s.len s'.reads s'.len hGl h
theorem text_cs (k : Nat) (l : List Int) (r : ByteArray) (W : World) (hGl : Gl W) (h : exact_nat_text.f k l = some r) {A : Option Addr} {c : Nat} (s : Cs W A c l) :
    Calls Tryz.prog 63 #[.slice A l.length c] W fun x w' => x = .returned (.string r) ∧ Below W.heap.size W w' :=
  exact_nat_text.calls k A c l r W s.reads s.len hGl h
/-- A digit that stands in the text. -/
theorem lit_cs (W : World) (n : Int) : Cs (W.alloc (.cells #[.int .u32 n] 69)) (some ⟨W.heap.size, 0, none⟩) 1 [n] := by
  have hr : Kd.R (Kd.int .u32) 69 (W.alloc (.cells #[.int .u32 n] 69)) W.heap.size (fun _ => True) (.slice (some ⟨W.heap.size, 0, none⟩) 1 1) [n] := by
    refine ⟨fun _ _ => trivial, [.int .u32 n], ?_, ?_⟩
    · have h2 := World.ownsRow_lit (base := W.heap.size) (e := 69) (size := 1) W #[.int .u32 n] 1 (Nat.le_refl _) (by simp [maxLen]) (by simp)
      have h3 : (Kd.int .u32).sz = 1 := rfl
      rw [h3]
      simpa using h2
    · exact Reps.one rfl (Reps.none _ _)
  exact Kd.V_mono (Kd.R_V (base' := 0) hr) (fun _ _ => trivial)
end Go.Proofs.YtckfdhnimmaeiaaGreatDoor.Pr
