/- cellref.Through, walked by hand. -/
import Derived.Test.YtefhcgnamfnkbaaDoorHull
import Derived.Test.YtefhcgnamfnkbaaDoorCopied
namespace Go.Proofs.YtefhcgnamfnkbaaDoor.Pr
open Go.RowKit Go.Proofs.YtefhcgnamfnkbaaDoorW.PrintWords Go.Proofs.YtefhcgnamfnkbaaDoorW.PrintLast Go.Proofs.YtefhcgnamfnkbaaDoorW.PrintMore

set_option linter.unusedSimpArgs false
set_option linter.unusedVariables false
/-- Ten cells of a reference. -/
def rc (s : ByteArray) (k r c r2 c2 : Int) (x y x2 y2 : Bool) : Obj := .cells #[.string s, .int .i64 k, .int .i64 r, .int .i64 c, .int .i64 r2, .int .i64 c2, .bool x, .bool y, .bool x2, .bool y2] 44
structure Th (w0 w : World) (s : ByteArray) (k r c r2 c2 : Int) (x y x2 y2 : Bool) : Prop where
  box : w.heap[w0.heap.size]? = some (.cells #[.string s, .int .i64 k, .int .i64 r, .int .i64 c, .int .i64 r2, .int .i64 c2, .bool x, .bool y, .bool x2, .bool y2] 44 (0, 0))
  res : w.heap[w0.heap.size + 1]? = some (.cells #[.string ⟨#[]⟩, .int .i64 0, .int .i64 0, .int .i64 0, .int .i64 0, .int .i64 0, .bool false, .bool false, .bool false, .bool false] 44 (0, 0))
  bw : Below w0.heap.size w0 w
variable {w0 w w' : World} {s : ByteArray} {k r c r2 c2 : Int} {x y x2 y2 : Bool}
theorem Th.up (h : Th w0 w s k r c r2 c2 x y x2 y2) (m : Below w.heap.size w w') : Th w0 w' s k r c r2 c2 x y x2 y2 := ⟨blk_below h.box m, blk_below h.res m, below_step h.bw m⟩
theorem Th.new (w : World) : Th w ((w.alloc (rc s k r c r2 c2 x y x2 y2)).alloc (rc ⟨#[]⟩ 0 0 0 0 0 false false false false)) s k r c r2 c2 x y x2 y2 :=
  ⟨blk_alloc (blk_new w _) _, new_at _ _ (by simp only [World.size_alloc]), climb⟩
theorem ix0 (A1 A2 : Option Addr) (n1 c1 n2 c2 : Nat) (w : World) : Sem.run Tryd.prog (Instr.index 122 (.agg #[.slice A1 n1 c1, .slice A2 n2 c2]) (.int .i64 0)) w = .ok (.slice A1 n1 c1) w := by kernel_rfl
theorem ix1 (A1 A2 : Option Addr) (n1 c1 n2 c2 : Nat) (w : World) : Sem.run Tryd.prog (Instr.index 122 (.agg #[.slice A1 n1 c1, .slice A2 n2 c2]) (.int .i64 1)) w = .ok (.slice A2 n2 c2) w := by kernel_rfl
/-- The rows, and whether any are left. -/
def rowsN (k r r2 : Int) (la : List S127) : Int × Int × Bool := if k = 3 then (r, r2, true) else hullN r r2 la 0 0 false 0 0
def colsN (k c c2 : Int) (b : Bool) (lb : List S127) : Int × Int × Bool := if k = 2 ∨ b = false then (c, c2, b) else hullN c c2 lb 0 0 false 0 0
/-- What Through answers to what is valid. -/
def throughF (s : ByteArray) (k r c r2 c2 : Int) (x y x2 y2 : Bool) (la lb : List S127) : Option (ByteArray × Int × Int × Int × Int × Int × Bool × Bool × Bool × Bool) :=
  if k = 4 then some (s, k, r, c, r2, c2, x, y, x2, y2) else
  if (colsN k c (if k = 0 then c else c2) (rowsN k r (if k = 0 then r else r2) la).2.2 lb).2.2 = true then
    cellref_fitting.f s k (rowsN k r (if k = 0 then r else r2) la).1 (colsN k c (if k = 0 then c else c2) (rowsN k r (if k = 0 then r else r2) la).2.2 lb).1 (rowsN k r (if k = 0 then r else r2) la).2.1 (colsN k c (if k = 0 then c else c2) (rowsN k r (if k = 0 then r else r2) la).2.2 lb).2.1 x y x2 y2
  else some (⟨#[]⟩, 4, 0, 0, 0, 0, false, false, false, false)
theorem Th.set (h : Th w0 w s k r c r2 c2 x y x2 y2) (i : Nat) (v : Value) : Below w0.heap.size w0 (w.setCell ⟨w0.heap.size, i, none⟩ v) ∧ (w.setCell ⟨w0.heap.size, i, none⟩ v).heap[w0.heap.size + 1]? = some (.cells #[.string ⟨#[]⟩, .int .i64 0, .int .i64 0, .int .i64 0, .int .i64 0, .int .i64 0, .bool false, .bool false, .bool false, .bool false] 44 (0, 0)) :=
  ⟨below_set h.bw (Nat.le_refl _), blk_far h.res (by show w0.heap.size + 1 ≠ w0.heap.size; omega) _⟩
theorem Th.s2 (h : Th w0 w s k r c r2 c2 x y x2 y2) (v : Int) : Th w0 (w.setCell ⟨w0.heap.size, 2, none⟩ (.int .i64 v)) s k v c r2 c2 x y x2 y2 := ⟨blk_put h.box 2 _ rfl, (h.set 2 _).2, (h.set 2 _).1⟩
theorem Th.s3 (h : Th w0 w s k r c r2 c2 x y x2 y2) (v : Int) : Th w0 (w.setCell ⟨w0.heap.size, 3, none⟩ (.int .i64 v)) s k r v r2 c2 x y x2 y2 := ⟨blk_put h.box 3 _ rfl, (h.set 3 _).2, (h.set 3 _).1⟩
theorem Th.s4 (h : Th w0 w s k r c r2 c2 x y x2 y2) (v : Int) : Th w0 (w.setCell ⟨w0.heap.size, 4, none⟩ (.int .i64 v)) s k r c v c2 x y x2 y2 := ⟨blk_put h.box 4 _ rfl, (h.set 4 _).2, (h.set 4 _).1⟩
theorem Th.s5 (h : Th w0 w s k r c r2 c2 x y x2 y2) (v : Int) : Th w0 (w.setCell ⟨w0.heap.size, 5, none⟩ (.int .i64 v)) s k r c r2 v x y x2 y2 := ⟨blk_put h.box 5 _ rfl, (h.set 5 _).2, (h.set 5 _).1⟩
set_option maxHeartbeats 8000000 in
set_option maxRecDepth 100000 in
theorem through_calls (n : Nat) (A1 : Option Addr) (c1 : Nat) (la : List S127) (A2 : Option Addr) (cp2 : Nat) (lb : List S127) (w : World) (hGl : Gl w) (sa : St w A1 c1 la) (sb : St w A2 cp2 lb) {m1 : ByteArray} {m2 m3 m4 m5 m6 : Int} {m7 m8 m9 m10 : Bool}
    (hc : cellref_Check.f n s k r c r2 c2 x y x2 y2 = some 0) (ha : axis_Check.f n la = some 0) (hb : axis_Check.f n lb = some 0) (ht : throughF s k r c r2 c2 x y x2 y2 la lb = some (m1, m2, m3, m4, m5, m6, m7, m8, m9, m10)) :
    Calls Tryd.prog 26 #[.agg #[.string s, .int .i64 k, .int .i64 r, .int .i64 c, .int .i64 r2, .int .i64 c2, .bool x, .bool y, .bool x2, .bool y2], .slice A1 la.length c1, .slice A2 lb.length cp2] w fun e w' =>
      e = .returned (.tuple #[.agg #[.string m1, .int .i64 m2, .int .i64 m3, .int .i64 m4, .int .i64 m5, .int .i64 m6, .bool m7, .bool m8, .bool m9, .bool m10], .int .i64 0]) ∧ Below w.heap.size w w' := by
  have SA := Aside0.mk sa
  have SB := Aside0.mk sb
  have HC := Aside0.mk hc
  have HA := Aside0.mk ha
  have HB := Aside0.mk hb
  have HT := Aside0.mk ht
  clear sa sb hc ha hb ht
  have S0 := Aside0.mk (Th.new (s := s) (k := k) (r := r) (c := c) (r2 := r2) (c2 := c2) (x := x) (y := y) (x2 := x2) (y2 := y2) w)
  go_enter Tryd.func26, Tryd.ntmps26
  go_wp2_with (first | (go_at_call 19; (with_reducible refine (cellref_Check.calls n _ _ _ _ _ _ _ _ _ _ _ _ (gl_below hGl climb) HC.out).mono ?_); rintro _ w1 ⟨rfl, hb1⟩; have S := Aside0.mk (S0.out.up hb1); clear hb1 S0))
  go_loopg [22, 10, 11] 2 (fun kq v22 v10 v11 w' => ∃ i : Nat, v22 = .int .i64 (i : Int) ∧ i + kq = 2 ∧ Aside0 (Th w w' s k r c r2 c2 x y x2 y2))
  case atStart => exact ⟨0, rfl, rfl, S⟩
  case round =>
    clear S
    obtain ⟨i, rfl, hk, S⟩ := hrel
    obtain rfl | rfl | rfl : i = 0 ∨ i = 1 ∨ i = 2 := by omega
    · go_wp2_with (fail)
      rw [show ((0 : Nat) : Int) = 0 from rfl, ix0]
      go_wp2_with (first | (go_at_call 61; (with_reducible refine (axis_Check.calls n A1 c1 la _ _ (SA.out.up (bl S.out.bw)).reads SA.out.len (gl_below hGl (bl S.out.bw)) HA.out).mono ?_); rintro _ w1 ⟨rfl, hb1⟩; have S_ := Aside0.mk ((S.out.up climb).up hb1); clear S hb1; have S := S_; clear S_))
      go_roundg 1
      case measure => omega
      case rel => exact ⟨1, rfl, rfl, S⟩
    · go_wp2_with (fail)
      rw [show ((1 : Nat) : Int) = 1 from rfl, ix1]
      go_wp2_with (first | (go_at_call 61; (with_reducible refine (axis_Check.calls n A2 cp2 lb _ _ (SB.out.up (bl S.out.bw)).reads SB.out.len (gl_below hGl (bl S.out.bw)) HB.out).mono ?_); rintro _ w1 ⟨rfl, hb1⟩; have S_ := Aside0.mk ((S.out.up climb).up hb1); clear S hb1; have S := S_; clear S_))
      go_roundg 0
      case measure => omega
      case rel => exact ⟨2, rfl, rfl, S⟩
    · clear hk
      unfold throughF at HT
      by_cases h4 : k = 4
      case pos =>
        subst h4
        have ht := HT.out
        rw [if_pos rfl] at ht
        simp only [Option.some.injEq, Prod.mk.injEq] at ht
        obtain ⟨rfl, rfl, rfl, rfl, rfl, rfl, rfl, rfl, rfl, rfl⟩ := ht
        clear HT
        have q0 : wr.cell? ⟨w.heap.size, 0, none⟩ = some (.string s) := (blk_cell S.out.box 0).trans rfl
        have q1 : wr.cell? ⟨w.heap.size, 1, none⟩ = some (.int .i64 4) := (blk_cell S.out.box 1).trans rfl
        have q2 : wr.cell? ⟨w.heap.size, 2, none⟩ = some (.int .i64 r) := (blk_cell S.out.box 2).trans rfl
        have q3 : wr.cell? ⟨w.heap.size, 3, none⟩ = some (.int .i64 c) := (blk_cell S.out.box 3).trans rfl
        have q4 : wr.cell? ⟨w.heap.size, 4, none⟩ = some (.int .i64 r2) := (blk_cell S.out.box 4).trans rfl
        have q5 : wr.cell? ⟨w.heap.size, 5, none⟩ = some (.int .i64 c2) := (blk_cell S.out.box 5).trans rfl
        have q6 : wr.cell? ⟨w.heap.size, 6, none⟩ = some (.bool x) := (blk_cell S.out.box 6).trans rfl
        have q7 : wr.cell? ⟨w.heap.size, 7, none⟩ = some (.bool y) := (blk_cell S.out.box 7).trans rfl
        have q8 : wr.cell? ⟨w.heap.size, 8, none⟩ = some (.bool x2) := (blk_cell S.out.box 8).trans rfl
        have q9 : wr.cell? ⟨w.heap.size, 9, none⟩ = some (.bool y2) := (blk_cell S.out.box 9).trans rfl
        have z0 : wr.cell? ⟨w.heap.size + 1, 0, none⟩ = some (.string ⟨#[]⟩) := (blk_cell S.out.res 0).trans rfl
        have z1 : wr.cell? ⟨w.heap.size + 1, 1, none⟩ = some (.int .i64 0) := (blk_cell S.out.res 1).trans rfl
        have z2 : wr.cell? ⟨w.heap.size + 1, 2, none⟩ = some (.int .i64 0) := (blk_cell S.out.res 2).trans rfl
        have z3 : wr.cell? ⟨w.heap.size + 1, 3, none⟩ = some (.int .i64 0) := (blk_cell S.out.res 3).trans rfl
        have z4 : wr.cell? ⟨w.heap.size + 1, 4, none⟩ = some (.int .i64 0) := (blk_cell S.out.res 4).trans rfl
        have z5 : wr.cell? ⟨w.heap.size + 1, 5, none⟩ = some (.int .i64 0) := (blk_cell S.out.res 5).trans rfl
        have z6 : wr.cell? ⟨w.heap.size + 1, 6, none⟩ = some (.bool false) := (blk_cell S.out.res 6).trans rfl
        have z7 : wr.cell? ⟨w.heap.size + 1, 7, none⟩ = some (.bool false) := (blk_cell S.out.res 7).trans rfl
        have z8 : wr.cell? ⟨w.heap.size + 1, 8, none⟩ = some (.bool false) := (blk_cell S.out.res 8).trans rfl
        have z9 : wr.cell? ⟨w.heap.size + 1, 9, none⟩ = some (.bool false) := (blk_cell S.out.res 9).trans rfl
        have fz0 := blk_frozen S.out.res 0
        have fz1 := blk_frozen S.out.res 1
        have fz2 := blk_frozen S.out.res 2
        have fz3 := blk_frozen S.out.res 3
        have fz4 := blk_frozen S.out.res 4
        have fz5 := blk_frozen S.out.res 5
        have fz6 := blk_frozen S.out.res 6
        have fz7 := blk_frozen S.out.res 7
        have fz8 := blk_frozen S.out.res 8
        have fz9 := blk_frozen S.out.res 9
        go_wp2_with (fail)
        clear q0 z0 fz0 q1 z1 fz1 q2 z2 fz2 q3 z3 fz3 q4 z4 fz4 q5 z5 fz5 q6 z6 fz6 q7 z7 fz7 q8 z8 fz8 q9 z9 fz9
        obtain ⟨hf, hw⟩ := store10 (b := w.heap.size + 1) S.out.res S.out.bw (Nat.le_succ _) (.string s) (.int .i64 4) (.int .i64 r) (.int .i64 c) (.int .i64 r2) (.int .i64 c2) (.bool x) (.bool y) (.bool x2) (.bool y2)
        obtain ⟨w6, hw6⟩ : ∃ w6, w6 = ((((((((((wr).setCell ⟨w.heap.size + 1, 0, none⟩ (.string s)).setCell ⟨w.heap.size + 1, 1, none⟩ (.int .i64 4)).setCell ⟨w.heap.size + 1, 2, none⟩ (.int .i64 r)).setCell ⟨w.heap.size + 1, 3, none⟩ (.int .i64 c)).setCell ⟨w.heap.size + 1, 4, none⟩ (.int .i64 r2)).setCell ⟨w.heap.size + 1, 5, none⟩ (.int .i64 c2)).setCell ⟨w.heap.size + 1, 6, none⟩ (.bool x)).setCell ⟨w.heap.size + 1, 7, none⟩ (.bool y)).setCell ⟨w.heap.size + 1, 8, none⟩ (.bool x2)).setCell ⟨w.heap.size + 1, 9, none⟩ (.bool y2) := ⟨_, rfl⟩
        rw [← hw6] at hf hw ⊢
        clear hw6
        refine bodyPost_ret (results_ct rfl _ _ (w.heap.size + 1) 44 #[.string s, .int .i64 4, .int .i64 r, .int .i64 c, .int .i64 r2, .int .i64 c2, .bool x, .bool y, .bool x2, .bool y2] (0, 0) _ rfl hf Tryd.underlying44 rfl (by kernel_rfl)) rfl ?_
        exact ⟨rfl, hw⟩
      case neg =>
        rw [if_neg h4] at HT
        have q1 : wr.cell? ⟨w.heap.size, 1, none⟩ = some (.int .i64 k) := (blk_cell S.out.box 1).trans rfl
        have q2 : wr.cell? ⟨w.heap.size, 2, none⟩ = some (.int .i64 r) := (blk_cell S.out.box 2).trans rfl
        have q3 : wr.cell? ⟨w.heap.size, 3, none⟩ = some (.int .i64 c) := (blk_cell S.out.box 3).trans rfl
        have q4 : wr.cell? ⟨w.heap.size, 4, none⟩ = some (.int .i64 r2) := (blk_cell S.out.box 4).trans rfl
        have q5 : wr.cell? ⟨w.heap.size, 5, none⟩ = some (.int .i64 c2) := (blk_cell S.out.box 5).trans rfl
        have p4 := blk_frozen S.out.box 4
        have p5 := blk_frozen S.out.box 5
        obtain ⟨R2, hR2⟩ : ∃ R2, R2 = (if k = 0 then r else r2) := ⟨_, rfl⟩
        obtain ⟨C2, hC2⟩ : ∃ C2, C2 = (if k = 0 then c else c2) := ⟨_, rfl⟩
        rw [← hR2, ← hC2] at HT
        have HR2 := Aside0.mk hR2
        have HC2 := Aside0.mk hC2
        clear hR2 hC2
        go_upto_if 38 with (fail)
        go_cut [] (fun wx => Th w wx s k r c R2 C2 x y x2 y2)
        case first =>
          by_cases h0 : k = 0
          · have e1 := HR2.out
            have e2 := HC2.out
            rw [if_pos h0] at e1 e2
            clear HR2 HC2 HT
            subst e1 e2
            go_wp2_with (fail)
            go_meet
            case rel => exact (S.out.s4 _).s5 _
          · have e1 := HR2.out
            have e2 := HC2.out
            rw [if_neg h0] at e1 e2
            clear HR2 HC2 HT
            subst e1 e2
            go_wp2_with (fail)
            go_meet
            case rel => exact S.out
        case rest =>
          clear S HR2 HC2 q1 q2 q3 q4 q5 p4 p5
          have S := Aside0.mk hcut
          clear hcut
          have q1 : wc.cell? ⟨w.heap.size, 1, none⟩ = some (.int .i64 k) := (blk_cell S.out.box 1).trans rfl
          have q2 : wc.cell? ⟨w.heap.size, 2, none⟩ = some (.int .i64 r) := (blk_cell S.out.box 2).trans rfl
          have q4 : wc.cell? ⟨w.heap.size, 4, none⟩ = some (.int .i64 R2) := (blk_cell S.out.box 4).trans rfl
          have p2 := blk_frozen S.out.box 2
          have p4 := blk_frozen S.out.box 4
          obtain ⟨RA, RB, al, hr⟩ : ∃ RA RB al, rowsN k r R2 la = (RA, RB, al) := ⟨_, _, _, rfl⟩
          rw [hr] at HT
          have HR := Aside0.mk hr
          clear hr
          go_upto_if 47 with (fail)
          go_cut [12] (fun v12 wx => v12 = .bool al ∧ Th w wx s k RA c RB C2 x y x2 y2)
          case first =>
            by_cases h3 : k = 3
            · have e1 := HR.out
              unfold rowsN at e1
              rw [if_pos h3] at e1
              simp only [Prod.mk.injEq] at e1
              obtain ⟨rfl, rfl, rfl⟩ := e1
              clear HR HT
              go_wp2_with (fail)
              go_meet
              case rel => exact ⟨rfl, S.out⟩
            · have e1 := HR.out
              unfold rowsN at e1
              rw [if_neg h3] at e1
              have E1 := Aside0.mk e1
              clear e1
              go_wp2_with (first | (go_at_call 68; (with_reducible refine (hull_calls A1 c1 la _ _ _ (SA.out.up (bl S.out.bw))).mono ?_); rintro _ wz ⟨rfl, hb1⟩; have S_ := Aside0.mk ((S.out.up climb).up hb1); clear S hb1 q2 q4 p2 p4; have S := S_; clear S_; have q2 : wz.cell? ⟨w.heap.size, 2, none⟩ = some (.int .i64 r) := (blk_cell S.out.box 2).trans rfl; have q4 : wz.cell? ⟨w.heap.size, 4, none⟩ = some (.int .i64 R2) := (blk_cell S.out.box 4).trans rfl; have p2 := blk_frozen S.out.box 2; have p4 := blk_frozen S.out.box 4))
              go_meet
              case rel =>
                have e1 := E1.out
                refine ⟨by rw [e1], ?_⟩
                have t := (S.out.s2 (hullN r R2 la 0 0 false 0 0).1).s4 (hullN r R2 la 0 0 false 0 0).2.1
                rw [e1] at t ⊢
                exact t
          case rest =>
            clear S HR q1 q2 q4 p2 p4
            obtain ⟨rfl, hS⟩ := hcut
            have S := Aside0.mk hS
            clear hS
            have q1 : wc.cell? ⟨w.heap.size, 1, none⟩ = some (.int .i64 k) := (blk_cell S.out.box 1).trans rfl
            have q3 : wc.cell? ⟨w.heap.size, 3, none⟩ = some (.int .i64 c) := (blk_cell S.out.box 3).trans rfl
            have q5 : wc.cell? ⟨w.heap.size, 5, none⟩ = some (.int .i64 C2) := (blk_cell S.out.box 5).trans rfl
            have p3 := blk_frozen S.out.box 3
            have p5 := blk_frozen S.out.box 5
            obtain ⟨CA, CB, be, hr⟩ : ∃ CA CB be, colsN k c C2 al lb = (CA, CB, be) := ⟨_, _, _, rfl⟩
            simp only [hr] at HT
            have HR := Aside0.mk hr
            clear hr
            by_cases h2 : k = 2
            case pos =>
              subst h2
              have h2 : (2 : Int) = 2 := rfl
              cases al with
              | true =>
                have e1 := HR.out
                unfold colsN at e1
                rw [if_pos (by simp [h2])] at e1
                simp only [Prod.mk.injEq] at e1
                obtain ⟨rfl, rfl, rfl⟩ := e1
                clear HR
                rw [if_pos (by simp)] at HT
                clear q1 q3 q5 p3 p5
                have q1 : wc.cell? ⟨w.heap.size, 1, none⟩ = some (.int .i64 2) := (blk_cell S.out.box 1).trans rfl
                have S_ := S
                clear S
                have S := S_
                clear S_
                have q0 : wc.cell? ⟨w.heap.size, 0, none⟩ = some (.string s) := (blk_cell S.out.box 0).trans rfl
                have q1 : wc.cell? ⟨w.heap.size, 1, none⟩ = some (.int .i64 2) := (blk_cell S.out.box 1).trans rfl
                have q2 : wc.cell? ⟨w.heap.size, 2, none⟩ = some (.int .i64 RA) := (blk_cell S.out.box 2).trans rfl
                have q3 : wc.cell? ⟨w.heap.size, 3, none⟩ = some (.int .i64 c) := (blk_cell S.out.box 3).trans rfl
                have q4 : wc.cell? ⟨w.heap.size, 4, none⟩ = some (.int .i64 RB) := (blk_cell S.out.box 4).trans rfl
                have q5 : wc.cell? ⟨w.heap.size, 5, none⟩ = some (.int .i64 C2) := (blk_cell S.out.box 5).trans rfl
                have q6 : wc.cell? ⟨w.heap.size, 6, none⟩ = some (.bool x) := (blk_cell S.out.box 6).trans rfl
                have q7 : wc.cell? ⟨w.heap.size, 7, none⟩ = some (.bool y) := (blk_cell S.out.box 7).trans rfl
                have q8 : wc.cell? ⟨w.heap.size, 8, none⟩ = some (.bool x2) := (blk_cell S.out.box 8).trans rfl
                have q9 : wc.cell? ⟨w.heap.size, 9, none⟩ = some (.bool y2) := (blk_cell S.out.box 9).trans rfl
                go_upto_region 22 with (fail)
                go_wp2_with (first | (go_at_call 48; (with_reducible refine (cellref_fitting.calls _ _ _ _ _ _ _ _ _ _ _ _ _ _ _ _ _ _ _ _ _ (gl_below hGl (bl S.out.bw)) HT.out).mono ?_); rintro _ wz ⟨rfl, hd⟩; have S_ := Aside0.mk ((S.out.up climb).up hd); clear S hd q0 q1 q2 q3 q4 q5 q6 q7 q8 q9; have S := S_; clear S_; have z0 : wz.cell? ⟨w.heap.size + 1, 0, none⟩ = some (.string ⟨#[]⟩) := (blk_cell S.out.res 0).trans rfl; have z1 : wz.cell? ⟨w.heap.size + 1, 1, none⟩ = some (.int .i64 0) := (blk_cell S.out.res 1).trans rfl; have z2 : wz.cell? ⟨w.heap.size + 1, 2, none⟩ = some (.int .i64 0) := (blk_cell S.out.res 2).trans rfl; have z3 : wz.cell? ⟨w.heap.size + 1, 3, none⟩ = some (.int .i64 0) := (blk_cell S.out.res 3).trans rfl; have z4 : wz.cell? ⟨w.heap.size + 1, 4, none⟩ = some (.int .i64 0) := (blk_cell S.out.res 4).trans rfl; have z5 : wz.cell? ⟨w.heap.size + 1, 5, none⟩ = some (.int .i64 0) := (blk_cell S.out.res 5).trans rfl; have z6 : wz.cell? ⟨w.heap.size + 1, 6, none⟩ = some (.bool false) := (blk_cell S.out.res 6).trans rfl; have z7 : wz.cell? ⟨w.heap.size + 1, 7, none⟩ = some (.bool false) := (blk_cell S.out.res 7).trans rfl; have z8 : wz.cell? ⟨w.heap.size + 1, 8, none⟩ = some (.bool false) := (blk_cell S.out.res 8).trans rfl; have z9 : wz.cell? ⟨w.heap.size + 1, 9, none⟩ = some (.bool false) := (blk_cell S.out.res 9).trans rfl; have fz0 := blk_frozen S.out.res 0; have fz1 := blk_frozen S.out.res 1; have fz2 := blk_frozen S.out.res 2; have fz3 := blk_frozen S.out.res 3; have fz4 := blk_frozen S.out.res 4; have fz5 := blk_frozen S.out.res 5; have fz6 := blk_frozen S.out.res 6; have fz7 := blk_frozen S.out.res 7; have fz8 := blk_frozen S.out.res 8; have fz9 := blk_frozen S.out.res 9))
                clear z0 fz0 z1 fz1 z2 fz2 z3 fz3 z4 fz4 z5 fz5 z6 fz6 z7 fz7 z8 fz8 z9 fz9
                obtain ⟨hf, hw⟩ := store10 (b := w.heap.size + 1) S.out.res S.out.bw (Nat.le_succ _) (.string m1) (.int .i64 m2) (.int .i64 m3) (.int .i64 m4) (.int .i64 m5) (.int .i64 m6) (.bool m7) (.bool m8) (.bool m9) (.bool m10)
                obtain ⟨w6, hw6⟩ : ∃ w6, w6 = ((((((((((wz).setCell ⟨w.heap.size + 1, 0, none⟩ (.string m1)).setCell ⟨w.heap.size + 1, 1, none⟩ (.int .i64 m2)).setCell ⟨w.heap.size + 1, 2, none⟩ (.int .i64 m3)).setCell ⟨w.heap.size + 1, 3, none⟩ (.int .i64 m4)).setCell ⟨w.heap.size + 1, 4, none⟩ (.int .i64 m5)).setCell ⟨w.heap.size + 1, 5, none⟩ (.int .i64 m6)).setCell ⟨w.heap.size + 1, 6, none⟩ (.bool m7)).setCell ⟨w.heap.size + 1, 7, none⟩ (.bool m8)).setCell ⟨w.heap.size + 1, 8, none⟩ (.bool m9)).setCell ⟨w.heap.size + 1, 9, none⟩ (.bool m10) := ⟨_, rfl⟩
                rw [← hw6] at hf hw ⊢
                clear hw6
                refine bodyPost_ret (results_ct rfl _ _ (w.heap.size + 1) 44 #[.string m1, .int .i64 m2, .int .i64 m3, .int .i64 m4, .int .i64 m5, .int .i64 m6, .bool m7, .bool m8, .bool m9, .bool m10] (0, 0) _ rfl hf Tryd.underlying44 rfl (by kernel_rfl)) rfl ?_
                exact ⟨rfl, hw⟩
              | false =>
                have e1 := HR.out
                unfold colsN at e1
                rw [if_pos (by simp [h2])] at e1
                simp only [Prod.mk.injEq] at e1
                obtain ⟨rfl, rfl, rfl⟩ := e1
                clear HR
                rw [if_neg (by simp)] at HT
                clear q1 q3 q5 p3 p5
                have q1 : wc.cell? ⟨w.heap.size, 1, none⟩ = some (.int .i64 2) := (blk_cell S.out.box 1).trans rfl
                have S_ := S
                clear S
                have S := S_
                clear S_
                have z0 : wc.cell? ⟨w.heap.size + 1, 0, none⟩ = some (.string ⟨#[]⟩) := (blk_cell S.out.res 0).trans rfl
                have z1 : wc.cell? ⟨w.heap.size + 1, 1, none⟩ = some (.int .i64 0) := (blk_cell S.out.res 1).trans rfl
                have z2 : wc.cell? ⟨w.heap.size + 1, 2, none⟩ = some (.int .i64 0) := (blk_cell S.out.res 2).trans rfl
                have z3 : wc.cell? ⟨w.heap.size + 1, 3, none⟩ = some (.int .i64 0) := (blk_cell S.out.res 3).trans rfl
                have z4 : wc.cell? ⟨w.heap.size + 1, 4, none⟩ = some (.int .i64 0) := (blk_cell S.out.res 4).trans rfl
                have z5 : wc.cell? ⟨w.heap.size + 1, 5, none⟩ = some (.int .i64 0) := (blk_cell S.out.res 5).trans rfl
                have z6 : wc.cell? ⟨w.heap.size + 1, 6, none⟩ = some (.bool false) := (blk_cell S.out.res 6).trans rfl
                have z7 : wc.cell? ⟨w.heap.size + 1, 7, none⟩ = some (.bool false) := (blk_cell S.out.res 7).trans rfl
                have z8 : wc.cell? ⟨w.heap.size + 1, 8, none⟩ = some (.bool false) := (blk_cell S.out.res 8).trans rfl
                have z9 : wc.cell? ⟨w.heap.size + 1, 9, none⟩ = some (.bool false) := (blk_cell S.out.res 9).trans rfl
                have fz0 := blk_frozen S.out.res 0
                have fz1 := blk_frozen S.out.res 1
                have fz2 := blk_frozen S.out.res 2
                have fz3 := blk_frozen S.out.res 3
                have fz4 := blk_frozen S.out.res 4
                have fz5 := blk_frozen S.out.res 5
                have fz6 := blk_frozen S.out.res 6
                have fz7 := blk_frozen S.out.res 7
                have fz8 := blk_frozen S.out.res 8
                have fz9 := blk_frozen S.out.res 9
                have ht := HT.out
                simp only [Option.some.injEq, Prod.mk.injEq] at ht
                obtain ⟨rfl, rfl, rfl, rfl, rfl, rfl, rfl, rfl, rfl, rfl⟩ := ht
                clear HT
                go_wp2_with (fail)
                clear z0 fz0 z1 fz1 z2 fz2 z3 fz3 z4 fz4 z5 fz5 z6 fz6 z7 fz7 z8 fz8 z9 fz9
                obtain ⟨hf, hw⟩ := store10 (b := w.heap.size + 1) S.out.res S.out.bw (Nat.le_succ _) (.string ⟨#[]⟩) (.int .i64 4) (.int .i64 0) (.int .i64 0) (.int .i64 0) (.int .i64 0) (.bool false) (.bool false) (.bool false) (.bool false)
                obtain ⟨w6, hw6⟩ : ∃ w6, w6 = ((((((((((wc).setCell ⟨w.heap.size + 1, 0, none⟩ (.string ⟨#[]⟩)).setCell ⟨w.heap.size + 1, 1, none⟩ (.int .i64 4)).setCell ⟨w.heap.size + 1, 2, none⟩ (.int .i64 0)).setCell ⟨w.heap.size + 1, 3, none⟩ (.int .i64 0)).setCell ⟨w.heap.size + 1, 4, none⟩ (.int .i64 0)).setCell ⟨w.heap.size + 1, 5, none⟩ (.int .i64 0)).setCell ⟨w.heap.size + 1, 6, none⟩ (.bool false)).setCell ⟨w.heap.size + 1, 7, none⟩ (.bool false)).setCell ⟨w.heap.size + 1, 8, none⟩ (.bool false)).setCell ⟨w.heap.size + 1, 9, none⟩ (.bool false) := ⟨_, rfl⟩
                rw [← hw6] at hf hw ⊢
                clear hw6
                refine bodyPost_ret (results_ct rfl _ _ (w.heap.size + 1) 44 #[.string ⟨#[]⟩, .int .i64 4, .int .i64 0, .int .i64 0, .int .i64 0, .int .i64 0, .bool false, .bool false, .bool false, .bool false] (0, 0) _ rfl hf Tryd.underlying44 rfl (by kernel_rfl)) rfl ?_
                exact ⟨rfl, hw⟩
            case neg =>
              cases al with
              | false =>
                have e1 := HR.out
                unfold colsN at e1
                rw [if_pos (by simp [h2])] at e1
                simp only [Prod.mk.injEq] at e1
                obtain ⟨rfl, rfl, rfl⟩ := e1
                clear HR
                rw [if_neg (by simp)] at HT
                clear q1 q3 q5 p3 p5
                have q1 : wc.cell? ⟨w.heap.size, 1, none⟩ = some (.int .i64 k) := (blk_cell S.out.box 1).trans rfl
                have S_ := S
                clear S
                have S := S_
                clear S_
                have z0 : wc.cell? ⟨w.heap.size + 1, 0, none⟩ = some (.string ⟨#[]⟩) := (blk_cell S.out.res 0).trans rfl
                have z1 : wc.cell? ⟨w.heap.size + 1, 1, none⟩ = some (.int .i64 0) := (blk_cell S.out.res 1).trans rfl
                have z2 : wc.cell? ⟨w.heap.size + 1, 2, none⟩ = some (.int .i64 0) := (blk_cell S.out.res 2).trans rfl
                have z3 : wc.cell? ⟨w.heap.size + 1, 3, none⟩ = some (.int .i64 0) := (blk_cell S.out.res 3).trans rfl
                have z4 : wc.cell? ⟨w.heap.size + 1, 4, none⟩ = some (.int .i64 0) := (blk_cell S.out.res 4).trans rfl
                have z5 : wc.cell? ⟨w.heap.size + 1, 5, none⟩ = some (.int .i64 0) := (blk_cell S.out.res 5).trans rfl
                have z6 : wc.cell? ⟨w.heap.size + 1, 6, none⟩ = some (.bool false) := (blk_cell S.out.res 6).trans rfl
                have z7 : wc.cell? ⟨w.heap.size + 1, 7, none⟩ = some (.bool false) := (blk_cell S.out.res 7).trans rfl
                have z8 : wc.cell? ⟨w.heap.size + 1, 8, none⟩ = some (.bool false) := (blk_cell S.out.res 8).trans rfl
                have z9 : wc.cell? ⟨w.heap.size + 1, 9, none⟩ = some (.bool false) := (blk_cell S.out.res 9).trans rfl
                have fz0 := blk_frozen S.out.res 0
                have fz1 := blk_frozen S.out.res 1
                have fz2 := blk_frozen S.out.res 2
                have fz3 := blk_frozen S.out.res 3
                have fz4 := blk_frozen S.out.res 4
                have fz5 := blk_frozen S.out.res 5
                have fz6 := blk_frozen S.out.res 6
                have fz7 := blk_frozen S.out.res 7
                have fz8 := blk_frozen S.out.res 8
                have fz9 := blk_frozen S.out.res 9
                have ht := HT.out
                simp only [Option.some.injEq, Prod.mk.injEq] at ht
                obtain ⟨rfl, rfl, rfl, rfl, rfl, rfl, rfl, rfl, rfl, rfl⟩ := ht
                clear HT
                go_wp2_with (fail)
                clear z0 fz0 z1 fz1 z2 fz2 z3 fz3 z4 fz4 z5 fz5 z6 fz6 z7 fz7 z8 fz8 z9 fz9
                obtain ⟨hf, hw⟩ := store10 (b := w.heap.size + 1) S.out.res S.out.bw (Nat.le_succ _) (.string ⟨#[]⟩) (.int .i64 4) (.int .i64 0) (.int .i64 0) (.int .i64 0) (.int .i64 0) (.bool false) (.bool false) (.bool false) (.bool false)
                obtain ⟨w6, hw6⟩ : ∃ w6, w6 = ((((((((((wc).setCell ⟨w.heap.size + 1, 0, none⟩ (.string ⟨#[]⟩)).setCell ⟨w.heap.size + 1, 1, none⟩ (.int .i64 4)).setCell ⟨w.heap.size + 1, 2, none⟩ (.int .i64 0)).setCell ⟨w.heap.size + 1, 3, none⟩ (.int .i64 0)).setCell ⟨w.heap.size + 1, 4, none⟩ (.int .i64 0)).setCell ⟨w.heap.size + 1, 5, none⟩ (.int .i64 0)).setCell ⟨w.heap.size + 1, 6, none⟩ (.bool false)).setCell ⟨w.heap.size + 1, 7, none⟩ (.bool false)).setCell ⟨w.heap.size + 1, 8, none⟩ (.bool false)).setCell ⟨w.heap.size + 1, 9, none⟩ (.bool false) := ⟨_, rfl⟩
                rw [← hw6] at hf hw ⊢
                clear hw6
                refine bodyPost_ret (results_ct rfl _ _ (w.heap.size + 1) 44 #[.string ⟨#[]⟩, .int .i64 4, .int .i64 0, .int .i64 0, .int .i64 0, .int .i64 0, .bool false, .bool false, .bool false, .bool false] (0, 0) _ rfl hf Tryd.underlying44 rfl (by kernel_rfl)) rfl ?_
                exact ⟨rfl, hw⟩
              | true =>
                go_upto_if 65 with (fail)
                go_cut [12] (fun v12 wx => v12 = .bool be ∧ Th w wx s k RA CA RB CB x y x2 y2)
                case first =>
                  have e1 := HR.out
                  unfold colsN at e1
                  rw [if_neg (by simp [h2])] at e1
                  have E1 := Aside0.mk e1
                  clear e1 HT HR
                  go_wp2_with (first | (go_at_call 68; (with_reducible refine (hull_calls A2 cp2 lb _ _ _ (SB.out.up (bl S.out.bw))).mono ?_); rintro _ wz ⟨rfl, hb1⟩; have S_ := Aside0.mk ((S.out.up climb).up hb1); clear S hb1 q3 q5 p3 p5; have S := S_; clear S_; have q3 : wz.cell? ⟨w.heap.size, 3, none⟩ = some (.int .i64 c) := (blk_cell S.out.box 3).trans rfl; have q5 : wz.cell? ⟨w.heap.size, 5, none⟩ = some (.int .i64 C2) := (blk_cell S.out.box 5).trans rfl; have p3 := blk_frozen S.out.box 3; have p5 := blk_frozen S.out.box 5))
                  go_meet
                  case rel =>
                    have e1 := E1.out
                    refine ⟨by rw [e1], ?_⟩
                    have t := (S.out.s3 (hullN c C2 lb 0 0 false 0 0).1).s5 (hullN c C2 lb 0 0 false 0 0).2.1
                    rw [e1] at t ⊢
                    exact t
                case rest =>
                  clear S HR q1 q3 q5 p3 p5
                  obtain ⟨rfl, hS⟩ := hcut
                  have S := Aside0.mk hS
                  clear hS
                  cases be with
                  | true =>
                    rw [if_pos rfl] at HT
                    have S_ := S
                    clear S
                    have S := S_
                    clear S_
                    have q0 : wc.cell? ⟨w.heap.size, 0, none⟩ = some (.string s) := (blk_cell S.out.box 0).trans rfl
                    have q1 : wc.cell? ⟨w.heap.size, 1, none⟩ = some (.int .i64 k) := (blk_cell S.out.box 1).trans rfl
                    have q2 : wc.cell? ⟨w.heap.size, 2, none⟩ = some (.int .i64 RA) := (blk_cell S.out.box 2).trans rfl
                    have q3 : wc.cell? ⟨w.heap.size, 3, none⟩ = some (.int .i64 CA) := (blk_cell S.out.box 3).trans rfl
                    have q4 : wc.cell? ⟨w.heap.size, 4, none⟩ = some (.int .i64 RB) := (blk_cell S.out.box 4).trans rfl
                    have q5 : wc.cell? ⟨w.heap.size, 5, none⟩ = some (.int .i64 CB) := (blk_cell S.out.box 5).trans rfl
                    have q6 : wc.cell? ⟨w.heap.size, 6, none⟩ = some (.bool x) := (blk_cell S.out.box 6).trans rfl
                    have q7 : wc.cell? ⟨w.heap.size, 7, none⟩ = some (.bool y) := (blk_cell S.out.box 7).trans rfl
                    have q8 : wc.cell? ⟨w.heap.size, 8, none⟩ = some (.bool x2) := (blk_cell S.out.box 8).trans rfl
                    have q9 : wc.cell? ⟨w.heap.size, 9, none⟩ = some (.bool y2) := (blk_cell S.out.box 9).trans rfl
                    go_upto_region 22 with (fail)
                    go_wp2_with (first | (go_at_call 48; (with_reducible refine (cellref_fitting.calls _ _ _ _ _ _ _ _ _ _ _ _ _ _ _ _ _ _ _ _ _ (gl_below hGl (bl S.out.bw)) HT.out).mono ?_); rintro _ wz ⟨rfl, hd⟩; have S_ := Aside0.mk ((S.out.up climb).up hd); clear S hd q0 q1 q2 q3 q4 q5 q6 q7 q8 q9; have S := S_; clear S_; have z0 : wz.cell? ⟨w.heap.size + 1, 0, none⟩ = some (.string ⟨#[]⟩) := (blk_cell S.out.res 0).trans rfl; have z1 : wz.cell? ⟨w.heap.size + 1, 1, none⟩ = some (.int .i64 0) := (blk_cell S.out.res 1).trans rfl; have z2 : wz.cell? ⟨w.heap.size + 1, 2, none⟩ = some (.int .i64 0) := (blk_cell S.out.res 2).trans rfl; have z3 : wz.cell? ⟨w.heap.size + 1, 3, none⟩ = some (.int .i64 0) := (blk_cell S.out.res 3).trans rfl; have z4 : wz.cell? ⟨w.heap.size + 1, 4, none⟩ = some (.int .i64 0) := (blk_cell S.out.res 4).trans rfl; have z5 : wz.cell? ⟨w.heap.size + 1, 5, none⟩ = some (.int .i64 0) := (blk_cell S.out.res 5).trans rfl; have z6 : wz.cell? ⟨w.heap.size + 1, 6, none⟩ = some (.bool false) := (blk_cell S.out.res 6).trans rfl; have z7 : wz.cell? ⟨w.heap.size + 1, 7, none⟩ = some (.bool false) := (blk_cell S.out.res 7).trans rfl; have z8 : wz.cell? ⟨w.heap.size + 1, 8, none⟩ = some (.bool false) := (blk_cell S.out.res 8).trans rfl; have z9 : wz.cell? ⟨w.heap.size + 1, 9, none⟩ = some (.bool false) := (blk_cell S.out.res 9).trans rfl; have fz0 := blk_frozen S.out.res 0; have fz1 := blk_frozen S.out.res 1; have fz2 := blk_frozen S.out.res 2; have fz3 := blk_frozen S.out.res 3; have fz4 := blk_frozen S.out.res 4; have fz5 := blk_frozen S.out.res 5; have fz6 := blk_frozen S.out.res 6; have fz7 := blk_frozen S.out.res 7; have fz8 := blk_frozen S.out.res 8; have fz9 := blk_frozen S.out.res 9))
                    clear z0 fz0 z1 fz1 z2 fz2 z3 fz3 z4 fz4 z5 fz5 z6 fz6 z7 fz7 z8 fz8 z9 fz9
                    obtain ⟨hf, hw⟩ := store10 (b := w.heap.size + 1) S.out.res S.out.bw (Nat.le_succ _) (.string m1) (.int .i64 m2) (.int .i64 m3) (.int .i64 m4) (.int .i64 m5) (.int .i64 m6) (.bool m7) (.bool m8) (.bool m9) (.bool m10)
                    obtain ⟨w6, hw6⟩ : ∃ w6, w6 = ((((((((((wz).setCell ⟨w.heap.size + 1, 0, none⟩ (.string m1)).setCell ⟨w.heap.size + 1, 1, none⟩ (.int .i64 m2)).setCell ⟨w.heap.size + 1, 2, none⟩ (.int .i64 m3)).setCell ⟨w.heap.size + 1, 3, none⟩ (.int .i64 m4)).setCell ⟨w.heap.size + 1, 4, none⟩ (.int .i64 m5)).setCell ⟨w.heap.size + 1, 5, none⟩ (.int .i64 m6)).setCell ⟨w.heap.size + 1, 6, none⟩ (.bool m7)).setCell ⟨w.heap.size + 1, 7, none⟩ (.bool m8)).setCell ⟨w.heap.size + 1, 8, none⟩ (.bool m9)).setCell ⟨w.heap.size + 1, 9, none⟩ (.bool m10) := ⟨_, rfl⟩
                    rw [← hw6] at hf hw ⊢
                    clear hw6
                    refine bodyPost_ret (results_ct rfl _ _ (w.heap.size + 1) 44 #[.string m1, .int .i64 m2, .int .i64 m3, .int .i64 m4, .int .i64 m5, .int .i64 m6, .bool m7, .bool m8, .bool m9, .bool m10] (0, 0) _ rfl hf Tryd.underlying44 rfl (by kernel_rfl)) rfl ?_
                    exact ⟨rfl, hw⟩
                  | false =>
                    rw [if_neg (by simp)] at HT
                    have S_ := S
                    clear S
                    have S := S_
                    clear S_
                    have z0 : wc.cell? ⟨w.heap.size + 1, 0, none⟩ = some (.string ⟨#[]⟩) := (blk_cell S.out.res 0).trans rfl
                    have z1 : wc.cell? ⟨w.heap.size + 1, 1, none⟩ = some (.int .i64 0) := (blk_cell S.out.res 1).trans rfl
                    have z2 : wc.cell? ⟨w.heap.size + 1, 2, none⟩ = some (.int .i64 0) := (blk_cell S.out.res 2).trans rfl
                    have z3 : wc.cell? ⟨w.heap.size + 1, 3, none⟩ = some (.int .i64 0) := (blk_cell S.out.res 3).trans rfl
                    have z4 : wc.cell? ⟨w.heap.size + 1, 4, none⟩ = some (.int .i64 0) := (blk_cell S.out.res 4).trans rfl
                    have z5 : wc.cell? ⟨w.heap.size + 1, 5, none⟩ = some (.int .i64 0) := (blk_cell S.out.res 5).trans rfl
                    have z6 : wc.cell? ⟨w.heap.size + 1, 6, none⟩ = some (.bool false) := (blk_cell S.out.res 6).trans rfl
                    have z7 : wc.cell? ⟨w.heap.size + 1, 7, none⟩ = some (.bool false) := (blk_cell S.out.res 7).trans rfl
                    have z8 : wc.cell? ⟨w.heap.size + 1, 8, none⟩ = some (.bool false) := (blk_cell S.out.res 8).trans rfl
                    have z9 : wc.cell? ⟨w.heap.size + 1, 9, none⟩ = some (.bool false) := (blk_cell S.out.res 9).trans rfl
                    have fz0 := blk_frozen S.out.res 0
                    have fz1 := blk_frozen S.out.res 1
                    have fz2 := blk_frozen S.out.res 2
                    have fz3 := blk_frozen S.out.res 3
                    have fz4 := blk_frozen S.out.res 4
                    have fz5 := blk_frozen S.out.res 5
                    have fz6 := blk_frozen S.out.res 6
                    have fz7 := blk_frozen S.out.res 7
                    have fz8 := blk_frozen S.out.res 8
                    have fz9 := blk_frozen S.out.res 9
                    have ht := HT.out
                    simp only [Option.some.injEq, Prod.mk.injEq] at ht
                    obtain ⟨rfl, rfl, rfl, rfl, rfl, rfl, rfl, rfl, rfl, rfl⟩ := ht
                    clear HT
                    go_wp2_with (fail)
                    clear z0 fz0 z1 fz1 z2 fz2 z3 fz3 z4 fz4 z5 fz5 z6 fz6 z7 fz7 z8 fz8 z9 fz9
                    obtain ⟨hf, hw⟩ := store10 (b := w.heap.size + 1) S.out.res S.out.bw (Nat.le_succ _) (.string ⟨#[]⟩) (.int .i64 4) (.int .i64 0) (.int .i64 0) (.int .i64 0) (.int .i64 0) (.bool false) (.bool false) (.bool false) (.bool false)
                    obtain ⟨w6, hw6⟩ : ∃ w6, w6 = ((((((((((wc).setCell ⟨w.heap.size + 1, 0, none⟩ (.string ⟨#[]⟩)).setCell ⟨w.heap.size + 1, 1, none⟩ (.int .i64 4)).setCell ⟨w.heap.size + 1, 2, none⟩ (.int .i64 0)).setCell ⟨w.heap.size + 1, 3, none⟩ (.int .i64 0)).setCell ⟨w.heap.size + 1, 4, none⟩ (.int .i64 0)).setCell ⟨w.heap.size + 1, 5, none⟩ (.int .i64 0)).setCell ⟨w.heap.size + 1, 6, none⟩ (.bool false)).setCell ⟨w.heap.size + 1, 7, none⟩ (.bool false)).setCell ⟨w.heap.size + 1, 8, none⟩ (.bool false)).setCell ⟨w.heap.size + 1, 9, none⟩ (.bool false) := ⟨_, rfl⟩
                    rw [← hw6] at hf hw ⊢
                    clear hw6
                    refine bodyPost_ret (results_ct rfl _ _ (w.heap.size + 1) 44 #[.string ⟨#[]⟩, .int .i64 4, .int .i64 0, .int .i64 0, .int .i64 0, .int .i64 0, .bool false, .bool false, .bool false, .bool false] (0, 0) _ rfl hf Tryd.underlying44 rfl (by kernel_rfl)) rfl ?_
                    exact ⟨rfl, hw⟩
end Go.Proofs.YtefhcgnamfnkbaaDoor.Pr

