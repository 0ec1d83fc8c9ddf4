/- Short words for the side conditions of the walks. -/
import Derived.Test.YtckfdhnimmaeiaaGreatDoorGl
import Derived.Test.YtckfdhnimmaeiaaGreatDoorV
namespace Go.Proofs.YtckfdhnimmaeiaaGreatDoor.Pr
open Go.RowKit Go.Proofs.YtckfdhnimmaeiaaGreatDoorW.PrintWords Go.Proofs.YtckfdhnimmaeiaaGreatDoorW.PrintLast Go.Proofs.YtckfdhnimmaeiaaGreatDoorW.PrintMore
/-- A block is as it was. -/
theorem bk {w w' : World} {g : Nat} {o : Obj} (h : w.heap[g]? = some o) (k : w.heap[g]? = some o → w'.heap[g]? = some o := by intro h; (with_reducible repeat (first | refine blk_drewN ?_ _ | refine blk_drew ?_ | refine blk_alloc ?_ _)); exact h) : w'.heap[g]? = some o := k h
theorem bf {w w' : World} {g : Nat} {o : Obj} (h : w.heap[g]? = some o) (k : w.heap[g]? = some o → w'.heap[g]? = some o := by intro h; (with_reducible repeat (first | refine blk_drewN ?_ _ | refine blk_drew ?_ | refine blk_alloc ?_ _ | refine blk_far ?_ (Aside0.out (by assumption)) _)); exact h) : w'.heap[g]? = some o := k h
/-- Nothing below has changed. -/
theorem bl {w W W' : World} (h : Below w.heap.size w W) (k : Below w.heap.size w W → Below w.heap.size w W' := by intro h; repeat (first | (with_reducible first | exact h | apply below_alloc | apply pw_below_drewN | apply below_drew1 | refine below_set ?_ (Aside0.out (by assumption))) | exact h)) : Below w.heap.size w W' := k h
variable {α : Type} {d : Kd α} {e : Nat} {w W W' : World} {base : Nat} {ok : Nat → Prop} {v : Value} {xs : List α}
theorem vl (h : Kd.V d e W base ok v xs) (k : Kd.V d e W base ok v xs → Kd.V d e W' base ok v xs := by intro h; (with_reducible repeat (first | apply Kd.V_alloc | apply Kd.V_drewN | apply Kd.V_drew)); exact h) : Kd.V d e W' base ok v xs := k h
theorem rl (h : Kd.R d e W base ok v xs) (k : Kd.R d e W base ok v xs → Kd.R d e W' base ok v xs := by intro h; (with_reducible repeat (first | apply Kd.R_alloc | apply Kd.R_drewN | apply Kd.R_drew)); exact h) : Kd.R d e W' base ok v xs := k h
theorem cl {A : Option Addr} {n : Nat} (h : Kd.C d W A n xs) (k : Kd.C d W A n xs → Kd.C d W' A n xs := by intro h; (with_reducible repeat (first | apply Kd.C_alloc | apply Kd.C_drewN | apply Kd.C_drew)); exact h) : Kd.C d W' A n xs := k h
theorem szg {g : Nat} (hg : g = W.heap.size) (h : Below w.heap.size w W) : w.heap.size ≤ g := by rw [hg]; exact h.size
theorem ntl {g g' : Nat} {o : Obj} (hg : g' = W.heap.size) (h : W.heap[g]? = some o) : g ≠ g' := by rw [hg]; exact Nat.ne_of_lt (blk_lt h)
theorem ntg {g g' : Nat} {o : Obj} (hg : g' = W.heap.size) (h : W.heap[g]? = some o) : g' ≠ g := by rw [hg]; exact Nat.ne_of_gt (blk_lt h)
end Go.Proofs.YtckfdhnimmaeiaaGreatDoor.Pr
