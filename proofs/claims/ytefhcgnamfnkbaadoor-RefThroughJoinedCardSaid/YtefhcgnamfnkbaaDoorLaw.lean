/- chancerykeep2.RefThroughJoined, walked. Printed by wip/tools/lawwalk.py. -/
import Derived.Test.YtefhcgnamfnkbaaDoorThrough
import Derived.Test.YtefhcgnamfnkbaaDoorJoinW
import Derived.Test.YtefhcgnamfnkbaaDoorKinds
import Derived.Test.YtefhcgnamfnkbaaDoorRefs
namespace Go.Proofs.YtefhcgnamfnkbaaDoor.Pr
open Go.RowKit Go.Proofs.YtefhcgnamfnkbaaDoorW.PrintWords Go.Proofs.YtefhcgnamfnkbaaDoorW.PrintLast Go.Proofs.YtefhcgnamfnkbaaDoorW.PrintMore
attribute [local go_sem high] eqA44
variable {s : ByteArray} {k r c r2 c2 : Int} {x y x2 y2 : Bool}
theorem max_five (a b c d e : Int) (w : World) : Sem.run Tryd.prog (Builtin.max_ #[3, 3, 3, 3, 3] 3 #[.int .i64 a, .int .i64 b, .int .i64 c, .int .i64 d, .int .i64 e]) w = .ok (.int .i64 (mx (mx (mx (mx a b) c) d) e)) w := by
  simp only [Builtin.max_, List.foldlM_cons, List.foldlM_nil, max2_int, mx]
  rfl
theorem through_nil (n : Nat) (A1 : Option Addr) (c1 : Nat) (la : List S127) (w : World) (hGl : Gl w) (sa : St w A1 c1 la) {m1 : ByteArray} {m2 m3 m4 m5 m6 : Int} {m7 m8 m9 m10 : Bool}
    (hc : cellref_Check.f n s k r c r2 c2 x y x2 y2 = some 0) (ha : axis_Check.f n la = some 0) (hb : axis_Check.f n [] = some 0) (ht : throughF s k r c r2 c2 x y x2 y2 la [] = some (m1, m2, m3, m4, m5, m6, m7, m8, m9, m10)) :
    Calls Tryd.prog 26 #[.agg #[.string s, .int .i64 k, .int .i64 r, .int .i64 c, .int .i64 r2, .int .i64 c2, .bool x, .bool y, .bool x2, .bool y2], .slice A1 la.length c1, .slice none 0 0] w fun e w' =>
      e = .returned (.tuple #[.agg #[.string m1, .int .i64 m2, .int .i64 m3, .int .i64 m4, .int .i64 m5, .int .i64 m6, .bool m7, .bool m8, .bool m9, .bool m10], .int .i64 0]) ∧ Below w.heap.size w w' :=
  through_calls n A1 c1 la none 0 [] w hGl sa (St.nil w) hc ha hb ht
/-- What the plain law says. -/
def LawSays (n : Nat) (s : ByteArray) (k : Int) (r : Int) (c : Int) (r2 : Int) (c2 : Int) (x : Bool) (y : Bool) (x2 : Bool) (y2 : Bool) (la lb : List S127) : Prop :=
  ∃ lc ej ec, joinF n la lb = some (lc, ej) ∧ cellref_Check.f n s k r c r2 c2 x y x2 y2 = some ec ∧ (ej = 0 → ec = 0 → ∃ old now q1 m last q2, axis_Lengths.f n la = some (old, now, q1) ∧ axis_Lengths.f n lb = some (m, last, q2) ∧
    (¬ (268435456 < mx (mx (mx (mx old now) last) r) r2) → axis_Check.f n [] = some 0 ∧ axis_Check.f n la = some 0 ∧ axis_Check.f n lb = some 0 ∧ axis_Check.f n lc = some 0 ∧ ∃ (s0 : ByteArray) (s1 : Int) (s2 : Int) (s3 : Int) (s4 : Int) (s5 : Int) (s6 : Bool) (s7 : Bool) (s8 : Bool) (s9 : Bool), throughF s k r c r2 c2 x y x2 y2 la [] = some (s0, s1, s2, s3, s4, s5, s6, s7, s8, s9) ∧ cellref_Check.f n s0 s1 s2 s3 s4 s5 s6 s7 s8 s9 = some 0 ∧
      ∃ (t0 : ByteArray) (t1 : Int) (t2 : Int) (t3 : Int) (t4 : Int) (t5 : Int) (t6 : Bool) (t7 : Bool) (t8 : Bool) (t9 : Bool) (u0 : ByteArray) (u1 : Int) (u2 : Int) (u3 : Int) (u4 : Int) (u5 : Int) (u6 : Bool) (u7 : Bool) (u8 : Bool) (u9 : Bool), throughF s0 s1 s2 s3 s4 s5 s6 s7 s8 s9 lb [] = some (t0, t1, t2, t3, t4, t5, t6, t7, t8, t9) ∧ throughF s k r c r2 c2 x y x2 y2 lc [] = some (u0, u1, u2, u3, u4, u5, u6, u7, u8, u9) ∧ ((k = 0 ∨ anyK la 1 = false) → (t0, t1, t2, t3, t4, t5, t6, t7, t8, t9) = (u0, u1, u2, u3, u4, u5, u6, u7, u8, u9)) ∧
      (anyK la 2 = false → ∃ back, undoF n la = some (back, 0) ∧ axis_Check.f n back = some 0 ∧ throughF s0 s1 s2 s3 s4 s5 s6 s7 s8 s9 back [] = some (s, k, r, c, r2, c2, x, y, x2, y2))))
theorem not_lt_le {a b : Int} (h : ¬ a < b) : b ≤ a := Int.not_lt.1 h
set_option maxHeartbeats 8000000 in
set_option maxRecDepth 100000 in
theorem law_walk (n : Nat) (A1 : Option Addr) (c1 : Nat) (la : List S127) (A2 : Option Addr) (cp2 : Nat) (lb : List S127) (w : World) (hGl : Gl w) (sa : St w A1 c1 la) (sb : St w A2 cp2 lb) (h : LawSays n s k r c r2 c2 x y x2 y2 la lb) :
    Calls Tryd.prog 9 #[.agg #[.string s, .int .i64 k, .int .i64 r, .int .i64 c, .int .i64 r2, .int .i64 c2, .bool x, .bool y, .bool x2, .bool y2], .slice A1 la.length c1, .slice A2 lb.length cp2] w fun e w' => e = .returned (.bool true) ∧ Below w.heap.size w w' := by
  obtain ⟨lc, ej, ec, hj, hc, h⟩ := h
  have SA := Aside0.mk sa
  have SB := Aside0.mk sb
  have HJ := Aside0.mk hj
  have HC := Aside0.mk hc
  have HL := Aside0.mk h
  have HRF : Aside0 (chancerykeep2_refs.f = some true) := ⟨rfl⟩
  have B0 : Aside0 ((w.alloc (.cells #[.string s, .int .i64 k, .int .i64 r, .int .i64 c, .int .i64 r2, .int .i64 c2, .bool x, .bool y, .bool x2, .bool y2] 44)).heap[w.heap.size]? = some (Obj.cells #[.string s, .int .i64 k, .int .i64 r, .int .i64 c, .int .i64 r2, .int .i64 c2, .bool x, .bool y, .bool x2, .bool y2] 44 (0, 0))) := ⟨blk_new w _⟩
  have HW := Aside0.mk (show Below w.heap.size w (w.alloc (.cells #[.string s, .int .i64 k, .int .i64 r, .int .i64 c, .int .i64 r2, .int .i64 c2, .bool x, .bool y, .bool x2, .bool y2] 44)) from climb)
  clear sa sb hj hc h
  go_enter Tryd.func9, Tryd.ntmps9
  go_upto_region 4 with (first
    | (go_at_call 16; (with_reducible refine (chancerykeep2_refs.calls true _ (gl_below hGl (bl HW.out)) HRF.out).mono ?_); rintro _ w1 ⟨rfl, hb⟩; have HW_ := Aside0.mk (below_step (bl HW.out) hb); have B0_ := Aside0.mk (blk_below (blk_below B0.out climb) hb); clear HW hb B0; have HW := HW_; clear HW_; have B0 := B0_; clear B0_)
    | (go_at_call 24; (with_reducible refine (join_calls n A1 c1 la A2 cp2 lb lc ej _ (gl_below hGl (bl HW.out)) (SA.out.up (bl HW.out)) (SB.out.up (bl HW.out)) HJ.out).mono ?_); rintro _ w2 ⟨A3, c3, rfl, hs3, hb⟩; have HW_ := Aside0.mk (below_step (bl HW.out) hb); have B0_ := Aside0.mk (blk_below (blk_below B0.out climb) hb); clear HW hb B0; have HW := HW_; clear HW_; have B0 := B0_; clear B0_; have SC := Aside0.mk hs3; clear hs3))
  have k0 : w2.cell? ⟨w.heap.size, 0, none⟩ = some (.string s) := (blk_cell B0.out 0).trans rfl
  have k1 : w2.cell? ⟨w.heap.size, 1, none⟩ = some (.int .i64 k) := (blk_cell B0.out 1).trans rfl
  have k2 : w2.cell? ⟨w.heap.size, 2, none⟩ = some (.int .i64 r) := (blk_cell B0.out 2).trans rfl
  have k3 : w2.cell? ⟨w.heap.size, 3, none⟩ = some (.int .i64 c) := (blk_cell B0.out 3).trans rfl
  have k4 : w2.cell? ⟨w.heap.size, 4, none⟩ = some (.int .i64 r2) := (blk_cell B0.out 4).trans rfl
  have k5 : w2.cell? ⟨w.heap.size, 5, none⟩ = some (.int .i64 c2) := (blk_cell B0.out 5).trans rfl
  have k6 : w2.cell? ⟨w.heap.size, 6, none⟩ = some (.bool x) := (blk_cell B0.out 6).trans rfl
  have k7 : w2.cell? ⟨w.heap.size, 7, none⟩ = some (.bool y) := (blk_cell B0.out 7).trans rfl
  have k8 : w2.cell? ⟨w.heap.size, 8, none⟩ = some (.bool x2) := (blk_cell B0.out 8).trans rfl
  have k9 : w2.cell? ⟨w.heap.size, 9, none⟩ = some (.bool y2) := (blk_cell B0.out 9).trans rfl
  by_cases hj0 : ej = 0
  case neg =>
    have hj1 : (ej != 0) = true := bne_iff_ne.2 hj0
    clear hj0
    go_wp2
    go_ret
    exact ⟨rfl, bl HW.out⟩
  subst hj0
  by_cases hc0 : ec = 0
  case neg =>
    have hc1 : (ec != 0) = true := bne_iff_ne.2 hc0
    clear hc0
    go_wp2_with (first | (go_at_call 19; (with_reducible refine (cellref_Check.calls n _ _ _ _ _ _ _ _ _ _ _ _ (gl_below hGl (bl HW.out)) HC.out).mono ?_); rintro _ w3 ⟨rfl, hb⟩; have HW_ := Aside0.mk (below_step (bl HW.out) hb); have B0_ := Aside0.mk (blk_below (blk_below B0.out climb) hb); have SC_ := Aside0.mk ((SC.out.up climb).up hb); clear HW hb B0 SC k0 k1 k2 k3 k4 k5 k6 k7 k8 k9; have HW := HW_; clear HW_; have B0 := B0_; clear B0_; have SC := SC_; clear SC_))
    go_ret
    exact ⟨rfl, bl HW.out⟩
  subst hc0
  obtain ⟨old, now, q1, m, last, q2, hl1, hl2, h⟩ := HL.out rfl rfl
  have HL1 := Aside0.mk hl1
  have HL2 := Aside0.mk hl2
  have HX := Aside0.mk h
  clear HL hl1 hl2 h
  go_upto_region 8 with (first
    | (go_at_call 19; (with_reducible refine (cellref_Check.calls n _ _ _ _ _ _ _ _ _ _ _ _ (gl_below hGl (bl HW.out)) HC.out).mono ?_); rintro _ w3 ⟨rfl, hb⟩; have HW_ := Aside0.mk (below_step (bl HW.out) hb); have B0_ := Aside0.mk (blk_below (blk_below B0.out climb) hb); have SC_ := Aside0.mk ((SC.out.up climb).up hb); clear HW hb B0 SC k0 k1 k2 k3 k4 k5 k6 k7 k8 k9; have HW := HW_; clear HW_; have B0 := B0_; clear B0_; have SC := SC_; clear SC_)
    | (go_at_call 25; (with_reducible refine (axis_Lengths.calls n A1 c1 la _ _ _ _ (SA.out.up (bl HW.out)).reads SA.out.len (gl_below hGl (bl HW.out)) HL1.out).mono ?_); rintro _ w4 ⟨rfl, hb⟩; have HW_ := Aside0.mk (below_step (bl HW.out) hb); have B0_ := Aside0.mk (blk_below (blk_below B0.out climb) hb); have SC_ := Aside0.mk ((SC.out.up climb).up hb); clear HW hb B0 SC; have HW := HW_; clear HW_; have B0 := B0_; clear B0_; have SC := SC_; clear SC_)
    | (go_at_call 25; (with_reducible refine (axis_Lengths.calls n A2 cp2 lb _ _ _ _ (SB.out.up (bl HW.out)).reads SB.out.len (gl_below hGl (bl HW.out)) HL2.out).mono ?_); rintro _ w5 ⟨rfl, hb⟩; have HW_ := Aside0.mk (below_step (bl HW.out) hb); have B0_ := Aside0.mk (blk_below (blk_below B0.out climb) hb); have SC_ := Aside0.mk ((SC.out.up climb).up hb); clear HW hb B0 SC; have HW := HW_; clear HW_; have B0 := B0_; clear B0_; have SC := SC_; clear SC_))
  have k0 : w5.cell? ⟨w.heap.size, 0, none⟩ = some (.string s) := (blk_cell B0.out 0).trans rfl
  have k1 : w5.cell? ⟨w.heap.size, 1, none⟩ = some (.int .i64 k) := (blk_cell B0.out 1).trans rfl
  have k2 : w5.cell? ⟨w.heap.size, 2, none⟩ = some (.int .i64 r) := (blk_cell B0.out 2).trans rfl
  have k3 : w5.cell? ⟨w.heap.size, 3, none⟩ = some (.int .i64 c) := (blk_cell B0.out 3).trans rfl
  have k4 : w5.cell? ⟨w.heap.size, 4, none⟩ = some (.int .i64 r2) := (blk_cell B0.out 4).trans rfl
  have k5 : w5.cell? ⟨w.heap.size, 5, none⟩ = some (.int .i64 c2) := (blk_cell B0.out 5).trans rfl
  have k6 : w5.cell? ⟨w.heap.size, 6, none⟩ = some (.bool x) := (blk_cell B0.out 6).trans rfl
  have k7 : w5.cell? ⟨w.heap.size, 7, none⟩ = some (.bool y) := (blk_cell B0.out 7).trans rfl
  have k8 : w5.cell? ⟨w.heap.size, 8, none⟩ = some (.bool x2) := (blk_cell B0.out 8).trans rfl
  have k9 : w5.cell? ⟨w.heap.size, 9, none⟩ = some (.bool y2) := (blk_cell B0.out 9).trans rfl
  go_wp2_with (fail)
  rw [max_five]
  by_cases hg : 268435456 < mx (mx (mx (mx old now) last) r) r2
  case pos =>
    go_wp2
    go_ret
    exact ⟨rfl, bl HW.out⟩
  obtain ⟨hn, ha, hb, hcc, s0, s1, s2, s3, s4, s5, s6, s7, s8, s9, ht1, hcs, t0, t1, t2, t3, t4, t5, t6, t7, t8, t9, u0, u1, u2, u3, u4, u5, u6, u7, u8, u9, ht2, ht3, hTU, hR⟩ := HX.out (by omega)
  have HN := Aside0.mk hn
  have HA := Aside0.mk ha
  have HB := Aside0.mk hb
  have HCC := Aside0.mk hcc
  have T1 := Aside0.mk ht1
  have CS := Aside0.mk hcs
  have T2 := Aside0.mk ht2
  have T3 := Aside0.mk ht3
  have HTU := Aside0.mk hTU
  have HR := Aside0.mk hR
  clear HX hn ha hb hcc ht1 hcs ht2 ht3 hTU hR
  go_upto_region 11 with (first | (go_at_call 26; (with_reducible refine (through_nil n A1 c1 la _ (gl_below hGl (bl HW.out)) (SA.out.up (bl HW.out)) HC.out HA.out HN.out T1.out).mono ?_); rintro _ w6 ⟨rfl, hb⟩; have HW_ := Aside0.mk (below_step (bl HW.out) hb); have B0_ := Aside0.mk (blk_below (blk_below B0.out climb) hb); have SC_ := Aside0.mk ((SC.out.up climb).up hb); clear HW hb B0 SC k0 k1 k2 k3 k4 k5 k6 k7 k8 k9; have HW := HW_; clear HW_; have B0 := B0_; clear B0_; have SC := SC_; clear SC_; have k0 : w6.cell? ⟨w.heap.size, 0, none⟩ = some (.string s) := (blk_cell B0.out 0).trans rfl; have k1 : w6.cell? ⟨w.heap.size, 1, none⟩ = some (.int .i64 k) := (blk_cell B0.out 1).trans rfl; have k2 : w6.cell? ⟨w.heap.size, 2, none⟩ = some (.int .i64 r) := (blk_cell B0.out 2).trans rfl; have k3 : w6.cell? ⟨w.heap.size, 3, none⟩ = some (.int .i64 c) := (blk_cell B0.out 3).trans rfl; have k4 : w6.cell? ⟨w.heap.size, 4, none⟩ = some (.int .i64 r2) := (blk_cell B0.out 4).trans rfl; have k5 : w6.cell? ⟨w.heap.size, 5, none⟩ = some (.int .i64 c2) := (blk_cell B0.out 5).trans rfl; have k6 : w6.cell? ⟨w.heap.size, 6, none⟩ = some (.bool x) := (blk_cell B0.out 6).trans rfl; have k7 : w6.cell? ⟨w.heap.size, 7, none⟩ = some (.bool y) := (blk_cell B0.out 7).trans rfl; have k8 : w6.cell? ⟨w.heap.size, 8, none⟩ = some (.bool x2) := (blk_cell B0.out 8).trans rfl; have k9 : w6.cell? ⟨w.heap.size, 9, none⟩ = some (.bool y2) := (blk_cell B0.out 9).trans rfl))
  have BS := Aside0.mk (blk_new w6 (.cells #[.string s0, .int .i64 s1, .int .i64 s2, .int .i64 s3, .int .i64 s4, .int .i64 s5, .bool s6, .bool s7, .bool s8, .bool s9] 44))
  go_upto_region 12 with (first | (go_at_call 26; (with_reducible refine (through_nil n A2 cp2 lb _ (gl_below hGl (bl HW.out)) (SB.out.up (bl HW.out)) CS.out HB.out HN.out T2.out).mono ?_); rintro _ w7 ⟨rfl, hb⟩; have HW_ := Aside0.mk (below_step (bl HW.out) hb); have B0_ := Aside0.mk (blk_below (blk_below B0.out climb) hb); have BS_ := Aside0.mk (blk_below (blk_below BS.out climb) hb); have SC_ := Aside0.mk ((SC.out.up climb).up hb); clear HW hb B0 BS SC k0 k1 k2 k3 k4 k5 k6 k7 k8 k9; have HW := HW_; clear HW_; have B0 := B0_; clear B0_; have BS := BS_; clear BS_; have SC := SC_; clear SC_; have k0 : w7.cell? ⟨w.heap.size, 0, none⟩ = some (.string s) := (blk_cell B0.out 0).trans rfl; have k1 : w7.cell? ⟨w.heap.size, 1, none⟩ = some (.int .i64 k) := (blk_cell B0.out 1).trans rfl; have k2 : w7.cell? ⟨w.heap.size, 2, none⟩ = some (.int .i64 r) := (blk_cell B0.out 2).trans rfl; have k3 : w7.cell? ⟨w.heap.size, 3, none⟩ = some (.int .i64 c) := (blk_cell B0.out 3).trans rfl; have k4 : w7.cell? ⟨w.heap.size, 4, none⟩ = some (.int .i64 r2) := (blk_cell B0.out 4).trans rfl; have k5 : w7.cell? ⟨w.heap.size, 5, none⟩ = some (.int .i64 c2) := (blk_cell B0.out 5).trans rfl; have k6 : w7.cell? ⟨w.heap.size, 6, none⟩ = some (.bool x) := (blk_cell B0.out 6).trans rfl; have k7 : w7.cell? ⟨w.heap.size, 7, none⟩ = some (.bool y) := (blk_cell B0.out 7).trans rfl; have k8 : w7.cell? ⟨w.heap.size, 8, none⟩ = some (.bool x2) := (blk_cell B0.out 8).trans rfl; have k9 : w7.cell? ⟨w.heap.size, 9, none⟩ = some (.bool y2) := (blk_cell B0.out 9).trans rfl; have z0 := blk_lt B0.out))
  have BT := Aside0.mk (blk_new w7 (.cells #[.string t0, .int .i64 t1, .int .i64 t2, .int .i64 t3, .int .i64 t4, .int .i64 t5, .bool t6, .bool t7, .bool t8, .bool t9] 44))
  go_upto_region 13 with (first | (go_at_call 26; (with_reducible refine (through_nil n A3 c3 lc _ (gl_below hGl (bl HW.out)) (SC.out.up climb) HC.out HCC.out HN.out T3.out).mono ?_); rintro _ w8 ⟨rfl, hb⟩; have HW_ := Aside0.mk (below_step (bl HW.out) hb); have B0_ := Aside0.mk (blk_below (blk_below B0.out climb) hb); have BS_ := Aside0.mk (blk_below (blk_below BS.out climb) hb); have BT_ := Aside0.mk (blk_below (blk_below BT.out climb) hb); have SC_ := Aside0.mk ((SC.out.up climb).up hb); clear HW hb B0 BS BT SC z0 k0 k1 k2 k3 k4 k5 k6 k7 k8 k9; have HW := HW_; clear HW_; have B0 := B0_; clear B0_; have BS := BS_; clear BS_; have BT := BT_; clear BT_; have SC := SC_; clear SC_; have z0 := blk_lt B0.out; have zt := blk_lt BT.out; have k1 : w8.cell? ⟨w.heap.size, 1, none⟩ = some (.int .i64 k) := (blk_cell B0.out 1).trans rfl; have ft0 : w8.cell? ⟨w7.heap.size, 0, none⟩ = some (.string t0) := (blk_cell BT.out 0).trans rfl; have ft1 : w8.cell? ⟨w7.heap.size, 1, none⟩ = some (.int .i64 t1) := (blk_cell BT.out 1).trans rfl; have ft2 : w8.cell? ⟨w7.heap.size, 2, none⟩ = some (.int .i64 t2) := (blk_cell BT.out 2).trans rfl; have ft3 : w8.cell? ⟨w7.heap.size, 3, none⟩ = some (.int .i64 t3) := (blk_cell BT.out 3).trans rfl; have ft4 : w8.cell? ⟨w7.heap.size, 4, none⟩ = some (.int .i64 t4) := (blk_cell BT.out 4).trans rfl; have ft5 : w8.cell? ⟨w7.heap.size, 5, none⟩ = some (.int .i64 t5) := (blk_cell BT.out 5).trans rfl; have ft6 : w8.cell? ⟨w7.heap.size, 6, none⟩ = some (.bool t6) := (blk_cell BT.out 6).trans rfl; have ft7 : w8.cell? ⟨w7.heap.size, 7, none⟩ = some (.bool t7) := (blk_cell BT.out 7).trans rfl; have ft8 : w8.cell? ⟨w7.heap.size, 8, none⟩ = some (.bool t8) := (blk_cell BT.out 8).trans rfl; have ft9 : w8.cell? ⟨w7.heap.size, 9, none⟩ = some (.bool t9) := (blk_cell BT.out 9).trans rfl))
  have BU := Aside0.mk (blk_new w8 (.cells #[.string u0, .int .i64 u1, .int .i64 u2, .int .i64 u3, .int .i64 u4, .int .i64 u5, .bool u6, .bool u7, .bool u8, .bool u9] 44))
  by_cases h0 : k = 0
  case pos =>
    have e := HTU.out (Or.inl h0)
    simp only [Prod.mk.injEq] at e
    obtain ⟨rfl, rfl, rfl, rfl, rfl, rfl, rfl, rfl, rfl, rfl⟩ := e
    clear HTU
    go_upto_region 17 with (fail)
    clear k1 ft0 ft1 ft2 ft3 ft4 ft5 ft6 ft7 ft8 ft9
    cases h2 : anyK la 2 with
    | true =>
      clear HR
      go_wp2_with (first | (go_at_call 27; (with_reducible refine (kinds_calls A1 c1 la _ _ (SA.out.up (bl HW.out))).mono ?_); rintro _ w10 ⟨rfl, hb⟩; have HW_ := Aside0.mk (below_step (bl HW.out) hb); have B0_ := Aside0.mk (blk_below (blk_below B0.out climb) hb); have BS_ := Aside0.mk (blk_below (blk_below BS.out climb) hb); have BT_ := Aside0.mk (blk_below (blk_below BT.out climb) hb); have BU_ := Aside0.mk (blk_below (blk_below BU.out climb) hb); clear HW hb B0 BS BT BU; have HW := HW_; clear HW_; have B0 := B0_; clear B0_; have BS := BS_; clear BS_; have BT := BT_; clear BT_; have BU := BU_; clear BU_))
      go_ret
      exact ⟨rfl, bl HW.out⟩
    | false =>
      obtain ⟨back, hu, hbk, ht⟩ := HR.out h2
      have UN := Aside0.mk hu
      have CB := Aside0.mk hbk
      have T4 := Aside0.mk ht
      clear HR hu hbk ht
      go_wp2_with (first
        | (go_at_call 27; (with_reducible refine (kinds_calls A1 c1 la _ _ (SA.out.up (bl HW.out))).mono ?_); rintro _ w10 ⟨rfl, hb⟩; have HW_ := Aside0.mk (below_step (bl HW.out) hb); have B0_ := Aside0.mk (blk_below (blk_below B0.out climb) hb); have BS_ := Aside0.mk (blk_below (blk_below BS.out climb) hb); have BT_ := Aside0.mk (blk_below (blk_below BT.out climb) hb); have BU_ := Aside0.mk (blk_below (blk_below BU.out climb) hb); clear HW hb B0 BS BT BU; have HW := HW_; clear HW_; have B0 := B0_; clear B0_; have BS := BS_; clear BS_; have BT := BT_; clear BT_; have BU := BU_; clear BU_)
        | (go_at_call 28; (with_reducible refine (undo_calls n A1 c1 la back 0 _ (gl_below hGl (bl HW.out)) (SA.out.up (bl HW.out)) UN.out).mono ?_); rintro _ w11 ⟨A4, c4, rfl, hs4, hb⟩; have HW_ := Aside0.mk (below_step (bl HW.out) hb); have B0_ := Aside0.mk (blk_below (blk_below B0.out climb) hb); have BS_ := Aside0.mk (blk_below (blk_below BS.out climb) hb); have BT_ := Aside0.mk (blk_below (blk_below BT.out climb) hb); have BU_ := Aside0.mk (blk_below (blk_below BU.out climb) hb); clear HW hb B0 BS BT BU; have HW := HW_; clear HW_; have B0 := B0_; clear B0_; have BS := BS_; clear BS_; have BT := BT_; clear BT_; have BU := BU_; clear BU_; have SD := Aside0.mk hs4; clear hs4; have f0 : w11.cell? ⟨w6.heap.size, 0, none⟩ = some (.string s0) := (blk_cell BS.out 0).trans rfl; have f1 : w11.cell? ⟨w6.heap.size, 1, none⟩ = some (.int .i64 s1) := (blk_cell BS.out 1).trans rfl; have f2 : w11.cell? ⟨w6.heap.size, 2, none⟩ = some (.int .i64 s2) := (blk_cell BS.out 2).trans rfl; have f3 : w11.cell? ⟨w6.heap.size, 3, none⟩ = some (.int .i64 s3) := (blk_cell BS.out 3).trans rfl; have f4 : w11.cell? ⟨w6.heap.size, 4, none⟩ = some (.int .i64 s4) := (blk_cell BS.out 4).trans rfl; have f5 : w11.cell? ⟨w6.heap.size, 5, none⟩ = some (.int .i64 s5) := (blk_cell BS.out 5).trans rfl; have f6 : w11.cell? ⟨w6.heap.size, 6, none⟩ = some (.bool s6) := (blk_cell BS.out 6).trans rfl; have f7 : w11.cell? ⟨w6.heap.size, 7, none⟩ = some (.bool s7) := (blk_cell BS.out 7).trans rfl; have f8 : w11.cell? ⟨w6.heap.size, 8, none⟩ = some (.bool s8) := (blk_cell BS.out 8).trans rfl; have f9 : w11.cell? ⟨w6.heap.size, 9, none⟩ = some (.bool s9) := (blk_cell BS.out 9).trans rfl)
        | (go_at_call 26; (with_reducible refine (through_nil n A4 c4 back _ (gl_below hGl (bl HW.out)) (SD.out.up climb) CS.out CB.out HN.out T4.out).mono ?_); rintro _ w12 ⟨rfl, hb⟩; have HW_ := Aside0.mk (below_step (bl HW.out) hb); have B0_ := Aside0.mk (blk_below (blk_below B0.out climb) hb); have BS_ := Aside0.mk (blk_below (blk_below BS.out climb) hb); have BT_ := Aside0.mk (blk_below (blk_below BT.out climb) hb); have BU_ := Aside0.mk (blk_below (blk_below BU.out climb) hb); clear HW hb B0 BS BT BU f0 f1 f2 f3 f4 f5 f6 f7 f8 f9; have HW := HW_; clear HW_; have B0 := B0_; clear B0_; have BS := BS_; clear BS_; have BT := BT_; clear BT_; have BU := BU_; clear BU_; have k0 : w12.cell? ⟨w.heap.size, 0, none⟩ = some (.string s) := (blk_cell B0.out 0).trans rfl; have k1 : w12.cell? ⟨w.heap.size, 1, none⟩ = some (.int .i64 k) := (blk_cell B0.out 1).trans rfl; have k2 : w12.cell? ⟨w.heap.size, 2, none⟩ = some (.int .i64 r) := (blk_cell B0.out 2).trans rfl; have k3 : w12.cell? ⟨w.heap.size, 3, none⟩ = some (.int .i64 c) := (blk_cell B0.out 3).trans rfl; have k4 : w12.cell? ⟨w.heap.size, 4, none⟩ = some (.int .i64 r2) := (blk_cell B0.out 4).trans rfl; have k5 : w12.cell? ⟨w.heap.size, 5, none⟩ = some (.int .i64 c2) := (blk_cell B0.out 5).trans rfl; have k6 : w12.cell? ⟨w.heap.size, 6, none⟩ = some (.bool x) := (blk_cell B0.out 6).trans rfl; have k7 : w12.cell? ⟨w.heap.size, 7, none⟩ = some (.bool y) := (blk_cell B0.out 7).trans rfl; have k8 : w12.cell? ⟨w.heap.size, 8, none⟩ = some (.bool x2) := (blk_cell B0.out 8).trans rfl; have k9 : w12.cell? ⟨w.heap.size, 9, none⟩ = some (.bool y2) := (blk_cell B0.out 9).trans rfl; have z12 := blk_lt B0.out))
      go_ret
      exact ⟨rfl, bl HW.out⟩
  case neg =>
    cases h1 : anyK la 1 with
    | true =>
      clear HTU
      go_upto_region 17 with (first | (go_at_call 27; (with_reducible refine (kinds_calls A1 c1 la _ _ (SA.out.up (bl HW.out))).mono ?_); rintro _ w9 ⟨rfl, hb⟩; have HW_ := Aside0.mk (below_step (bl HW.out) hb); have B0_ := Aside0.mk (blk_below (blk_below B0.out climb) hb); have BS_ := Aside0.mk (blk_below (blk_below BS.out climb) hb); have BT_ := Aside0.mk (blk_below (blk_below BT.out climb) hb); have BU_ := Aside0.mk (blk_below (blk_below BU.out climb) hb); clear HW hb B0 BS BT BU k1 ft0 ft1 ft2 ft3 ft4 ft5 ft6 ft7 ft8 ft9; have HW := HW_; clear HW_; have B0 := B0_; clear B0_; have BS := BS_; clear BS_; have BT := BT_; clear BT_; have BU := BU_; clear BU_))
      cases h2 : anyK la 2 with
      | true =>
        clear HR
        go_wp2_with (first | (go_at_call 27; (with_reducible refine (kinds_calls A1 c1 la _ _ (SA.out.up (bl HW.out))).mono ?_); rintro _ w10 ⟨rfl, hb⟩; have HW_ := Aside0.mk (below_step (bl HW.out) hb); have B0_ := Aside0.mk (blk_below (blk_below B0.out climb) hb); have BS_ := Aside0.mk (blk_below (blk_below BS.out climb) hb); have BT_ := Aside0.mk (blk_below (blk_below BT.out climb) hb); have BU_ := Aside0.mk (blk_below (blk_below BU.out climb) hb); clear HW hb B0 BS BT BU; have HW := HW_; clear HW_; have B0 := B0_; clear B0_; have BS := BS_; clear BS_; have BT := BT_; clear BT_; have BU := BU_; clear BU_))
        go_ret
        exact ⟨rfl, bl HW.out⟩
      | false =>
        obtain ⟨back, hu, hbk, ht⟩ := HR.out h2
        have UN := Aside0.mk hu
        have CB := Aside0.mk hbk
        have T4 := Aside0.mk ht
        clear HR hu hbk ht
        go_wp2_with (first
          | (go_at_call 27; (with_reducible refine (kinds_calls A1 c1 la _ _ (SA.out.up (bl HW.out))).mono ?_); rintro _ w10 ⟨rfl, hb⟩; have HW_ := Aside0.mk (below_step (bl HW.out) hb); have B0_ := Aside0.mk (blk_below (blk_below B0.out climb) hb); have BS_ := Aside0.mk (blk_below (blk_below BS.out climb) hb); have BT_ := Aside0.mk (blk_below (blk_below BT.out climb) hb); have BU_ := Aside0.mk (blk_below (blk_below BU.out climb) hb); clear HW hb B0 BS BT BU; have HW := HW_; clear HW_; have B0 := B0_; clear B0_; have BS := BS_; clear BS_; have BT := BT_; clear BT_; have BU := BU_; clear BU_)
          | (go_at_call 28; (with_reducible refine (undo_calls n A1 c1 la back 0 _ (gl_below hGl (bl HW.out)) (SA.out.up (bl HW.out)) UN.out).mono ?_); rintro _ w11 ⟨A4, c4, rfl, hs4, hb⟩; have HW_ := Aside0.mk (below_step (bl HW.out) hb); have B0_ := Aside0.mk (blk_below (blk_below B0.out climb) hb); have BS_ := Aside0.mk (blk_below (blk_below BS.out climb) hb); have BT_ := Aside0.mk (blk_below (blk_below BT.out climb) hb); have BU_ := Aside0.mk (blk_below (blk_below BU.out climb) hb); clear HW hb B0 BS BT BU; have HW := HW_; clear HW_; have B0 := B0_; clear B0_; have BS := BS_; clear BS_; have BT := BT_; clear BT_; have BU := BU_; clear BU_; have SD := Aside0.mk hs4; clear hs4; have f0 : w11.cell? ⟨w6.heap.size, 0, none⟩ = some (.string s0) := (blk_cell BS.out 0).trans rfl; have f1 : w11.cell? ⟨w6.heap.size, 1, none⟩ = some (.int .i64 s1) := (blk_cell BS.out 1).trans rfl; have f2 : w11.cell? ⟨w6.heap.size, 2, none⟩ = some (.int .i64 s2) := (blk_cell BS.out 2).trans rfl; have f3 : w11.cell? ⟨w6.heap.size, 3, none⟩ = some (.int .i64 s3) := (blk_cell BS.out 3).trans rfl; have f4 : w11.cell? ⟨w6.heap.size, 4, none⟩ = some (.int .i64 s4) := (blk_cell BS.out 4).trans rfl; have f5 : w11.cell? ⟨w6.heap.size, 5, none⟩ = some (.int .i64 s5) := (blk_cell BS.out 5).trans rfl; have f6 : w11.cell? ⟨w6.heap.size, 6, none⟩ = some (.bool s6) := (blk_cell BS.out 6).trans rfl; have f7 : w11.cell? ⟨w6.heap.size, 7, none⟩ = some (.bool s7) := (blk_cell BS.out 7).trans rfl; have f8 : w11.cell? ⟨w6.heap.size, 8, none⟩ = some (.bool s8) := (blk_cell BS.out 8).trans rfl; have f9 : w11.cell? ⟨w6.heap.size, 9, none⟩ = some (.bool s9) := (blk_cell BS.out 9).trans rfl)
          | (go_at_call 26; (with_reducible refine (through_nil n A4 c4 back _ (gl_below hGl (bl HW.out)) (SD.out.up climb) CS.out CB.out HN.out T4.out).mono ?_); rintro _ w12 ⟨rfl, hb⟩; have HW_ := Aside0.mk (below_step (bl HW.out) hb); have B0_ := Aside0.mk (blk_below (blk_below B0.out climb) hb); have BS_ := Aside0.mk (blk_below (blk_below BS.out climb) hb); have BT_ := Aside0.mk (blk_below (blk_below BT.out climb) hb); have BU_ := Aside0.mk (blk_below (blk_below BU.out climb) hb); clear HW hb B0 BS BT BU f0 f1 f2 f3 f4 f5 f6 f7 f8 f9; have HW := HW_; clear HW_; have B0 := B0_; clear B0_; have BS := BS_; clear BS_; have BT := BT_; clear BT_; have BU := BU_; clear BU_; have k0 : w12.cell? ⟨w.heap.size, 0, none⟩ = some (.string s) := (blk_cell B0.out 0).trans rfl; have k1 : w12.cell? ⟨w.heap.size, 1, none⟩ = some (.int .i64 k) := (blk_cell B0.out 1).trans rfl; have k2 : w12.cell? ⟨w.heap.size, 2, none⟩ = some (.int .i64 r) := (blk_cell B0.out 2).trans rfl; have k3 : w12.cell? ⟨w.heap.size, 3, none⟩ = some (.int .i64 c) := (blk_cell B0.out 3).trans rfl; have k4 : w12.cell? ⟨w.heap.size, 4, none⟩ = some (.int .i64 r2) := (blk_cell B0.out 4).trans rfl; have k5 : w12.cell? ⟨w.heap.size, 5, none⟩ = some (.int .i64 c2) := (blk_cell B0.out 5).trans rfl; have k6 : w12.cell? ⟨w.heap.size, 6, none⟩ = some (.bool x) := (blk_cell B0.out 6).trans rfl; have k7 : w12.cell? ⟨w.heap.size, 7, none⟩ = some (.bool y) := (blk_cell B0.out 7).trans rfl; have k8 : w12.cell? ⟨w.heap.size, 8, none⟩ = some (.bool x2) := (blk_cell B0.out 8).trans rfl; have k9 : w12.cell? ⟨w.heap.size, 9, none⟩ = some (.bool y2) := (blk_cell B0.out 9).trans rfl; have z12 := blk_lt B0.out))
        go_ret
        exact ⟨rfl, bl HW.out⟩
    | false =>
      have e := HTU.out (Or.inr h1)
      simp only [Prod.mk.injEq] at e
      obtain ⟨rfl, rfl, rfl, rfl, rfl, rfl, rfl, rfl, rfl, rfl⟩ := e
      clear HTU
      go_upto_region 17 with (first | (go_at_call 27; (with_reducible refine (kinds_calls A1 c1 la _ _ (SA.out.up (bl HW.out))).mono ?_); rintro _ w9 ⟨rfl, hb⟩; have HW_ := Aside0.mk (below_step (bl HW.out) hb); have B0_ := Aside0.mk (blk_below (blk_below B0.out climb) hb); have BS_ := Aside0.mk (blk_below (blk_below BS.out climb) hb); have BT_ := Aside0.mk (blk_below (blk_below BT.out climb) hb); have BU_ := Aside0.mk (blk_below (blk_below BU.out climb) hb); clear HW hb B0 BS BT BU k1 ft0 ft1 ft2 ft3 ft4 ft5 ft6 ft7 ft8 ft9; have HW := HW_; clear HW_; have B0 := B0_; clear B0_; have BS := BS_; clear BS_; have BT := BT_; clear BT_; have BU := BU_; clear BU_; have ft0 : w9.cell? ⟨w7.heap.size, 0, none⟩ = some (.string t0) := (blk_cell BT.out 0).trans rfl; have ft1 : w9.cell? ⟨w7.heap.size, 1, none⟩ = some (.int .i64 t1) := (blk_cell BT.out 1).trans rfl; have ft2 : w9.cell? ⟨w7.heap.size, 2, none⟩ = some (.int .i64 t2) := (blk_cell BT.out 2).trans rfl; have ft3 : w9.cell? ⟨w7.heap.size, 3, none⟩ = some (.int .i64 t3) := (blk_cell BT.out 3).trans rfl; have ft4 : w9.cell? ⟨w7.heap.size, 4, none⟩ = some (.int .i64 t4) := (blk_cell BT.out 4).trans rfl; have ft5 : w9.cell? ⟨w7.heap.size, 5, none⟩ = some (.int .i64 t5) := (blk_cell BT.out 5).trans rfl; have ft6 : w9.cell? ⟨w7.heap.size, 6, none⟩ = some (.bool t6) := (blk_cell BT.out 6).trans rfl; have ft7 : w9.cell? ⟨w7.heap.size, 7, none⟩ = some (.bool t7) := (blk_cell BT.out 7).trans rfl; have ft8 : w9.cell? ⟨w7.heap.size, 8, none⟩ = some (.bool t8) := (blk_cell BT.out 8).trans rfl; have ft9 : w9.cell? ⟨w7.heap.size, 9, none⟩ = some (.bool t9) := (blk_cell BT.out 9).trans rfl; have fu0 : w9.cell? ⟨w8.heap.size, 0, none⟩ = some (.string t0) := (blk_cell BU.out 0).trans rfl; have fu1 : w9.cell? ⟨w8.heap.size, 1, none⟩ = some (.int .i64 t1) := (blk_cell BU.out 1).trans rfl; have fu2 : w9.cell? ⟨w8.heap.size, 2, none⟩ = some (.int .i64 t2) := (blk_cell BU.out 2).trans rfl; have fu3 : w9.cell? ⟨w8.heap.size, 3, none⟩ = some (.int .i64 t3) := (blk_cell BU.out 3).trans rfl; have fu4 : w9.cell? ⟨w8.heap.size, 4, none⟩ = some (.int .i64 t4) := (blk_cell BU.out 4).trans rfl; have fu5 : w9.cell? ⟨w8.heap.size, 5, none⟩ = some (.int .i64 t5) := (blk_cell BU.out 5).trans rfl; have fu6 : w9.cell? ⟨w8.heap.size, 6, none⟩ = some (.bool t6) := (blk_cell BU.out 6).trans rfl; have fu7 : w9.cell? ⟨w8.heap.size, 7, none⟩ = some (.bool t7) := (blk_cell BU.out 7).trans rfl; have fu8 : w9.cell? ⟨w8.heap.size, 8, none⟩ = some (.bool t8) := (blk_cell BU.out 8).trans rfl; have fu9 : w9.cell? ⟨w8.heap.size, 9, none⟩ = some (.bool t9) := (blk_cell BU.out 9).trans rfl))
      clear ft0 ft1 ft2 ft3 ft4 ft5 ft6 ft7 ft8 ft9 fu0 fu1 fu2 fu3 fu4 fu5 fu6 fu7 fu8 fu9
      cases h2 : anyK la 2 with
      | true =>
        clear HR
        go_wp2_with (first | (go_at_call 27; (with_reducible refine (kinds_calls A1 c1 la _ _ (SA.out.up (bl HW.out))).mono ?_); rintro _ w10 ⟨rfl, hb⟩; have HW_ := Aside0.mk (below_step (bl HW.out) hb); have B0_ := Aside0.mk (blk_below (blk_below B0.out climb) hb); have BS_ := Aside0.mk (blk_below (blk_below BS.out climb) hb); have BT_ := Aside0.mk (blk_below (blk_below BT.out climb) hb); have BU_ := Aside0.mk (blk_below (blk_below BU.out climb) hb); clear HW hb B0 BS BT BU; have HW := HW_; clear HW_; have B0 := B0_; clear B0_; have BS := BS_; clear BS_; have BT := BT_; clear BT_; have BU := BU_; clear BU_))
        go_ret
        exact ⟨rfl, bl HW.out⟩
      | false =>
        obtain ⟨back, hu, hbk, ht⟩ := HR.out h2
        have UN := Aside0.mk hu
        have CB := Aside0.mk hbk
        have T4 := Aside0.mk ht
        clear HR hu hbk ht
        go_wp2_with (first
          | (go_at_call 27; (with_reducible refine (kinds_calls A1 c1 la _ _ (SA.out.up (bl HW.out))).mono ?_); rintro _ w10 ⟨rfl, hb⟩; have HW_ := Aside0.mk (below_step (bl HW.out) hb); have B0_ := Aside0.mk (blk_below (blk_below B0.out climb) hb); have BS_ := Aside0.mk (blk_below (blk_below BS.out climb) hb); have BT_ := Aside0.mk (blk_below (blk_below BT.out climb) hb); have BU_ := Aside0.mk (blk_below (blk_below BU.out climb) hb); clear HW hb B0 BS BT BU; have HW := HW_; clear HW_; have B0 := B0_; clear B0_; have BS := BS_; clear BS_; have BT := BT_; clear BT_; have BU := BU_; clear BU_)
          | (go_at_call 28; (with_reducible refine (undo_calls n A1 c1 la back 0 _ (gl_below hGl (bl HW.out)) (SA.out.up (bl HW.out)) UN.out).mono ?_); rintro _ w11 ⟨A4, c4, rfl, hs4, hb⟩; have HW_ := Aside0.mk (below_step (bl HW.out) hb); have B0_ := Aside0.mk (blk_below (blk_below B0.out climb) hb); have BS_ := Aside0.mk (blk_below (blk_below BS.out climb) hb); have BT_ := Aside0.mk (blk_below (blk_below BT.out climb) hb); have BU_ := Aside0.mk (blk_below (blk_below BU.out climb) hb); clear HW hb B0 BS BT BU; have HW := HW_; clear HW_; have B0 := B0_; clear B0_; have BS := BS_; clear BS_; have BT := BT_; clear BT_; have BU := BU_; clear BU_; have SD := Aside0.mk hs4; clear hs4; have f0 : w11.cell? ⟨w6.heap.size, 0, none⟩ = some (.string s0) := (blk_cell BS.out 0).trans rfl; have f1 : w11.cell? ⟨w6.heap.size, 1, none⟩ = some (.int .i64 s1) := (blk_cell BS.out 1).trans rfl; have f2 : w11.cell? ⟨w6.heap.size, 2, none⟩ = some (.int .i64 s2) := (blk_cell BS.out 2).trans rfl; have f3 : w11.cell? ⟨w6.heap.size, 3, none⟩ = some (.int .i64 s3) := (blk_cell BS.out 3).trans rfl; have f4 : w11.cell? ⟨w6.heap.size, 4, none⟩ = some (.int .i64 s4) := (blk_cell BS.out 4).trans rfl; have f5 : w11.cell? ⟨w6.heap.size, 5, none⟩ = some (.int .i64 s5) := (blk_cell BS.out 5).trans rfl; have f6 : w11.cell? ⟨w6.heap.size, 6, none⟩ = some (.bool s6) := (blk_cell BS.out 6).trans rfl; have f7 : w11.cell? ⟨w6.heap.size, 7, none⟩ = some (.bool s7) := (blk_cell BS.out 7).trans rfl; have f8 : w11.cell? ⟨w6.heap.size, 8, none⟩ = some (.bool s8) := (blk_cell BS.out 8).trans rfl; have f9 : w11.cell? ⟨w6.heap.size, 9, none⟩ = some (.bool s9) := (blk_cell BS.out 9).trans rfl)
          | (go_at_call 26; (with_reducible refine (through_nil n A4 c4 back _ (gl_below hGl (bl HW.out)) (SD.out.up climb) CS.out CB.out HN.out T4.out).mono ?_); rintro _ w12 ⟨rfl, hb⟩; have HW_ := Aside0.mk (below_step (bl HW.out) hb); have B0_ := Aside0.mk (blk_below (blk_below B0.out climb) hb); have BS_ := Aside0.mk (blk_below (blk_below BS.out climb) hb); have BT_ := Aside0.mk (blk_below (blk_below BT.out climb) hb); have BU_ := Aside0.mk (blk_below (blk_below BU.out climb) hb); clear HW hb B0 BS BT BU f0 f1 f2 f3 f4 f5 f6 f7 f8 f9; have HW := HW_; clear HW_; have B0 := B0_; clear B0_; have BS := BS_; clear BS_; have BT := BT_; clear BT_; have BU := BU_; clear BU_; have k0 : w12.cell? ⟨w.heap.size, 0, none⟩ = some (.string s) := (blk_cell B0.out 0).trans rfl; have k1 : w12.cell? ⟨w.heap.size, 1, none⟩ = some (.int .i64 k) := (blk_cell B0.out 1).trans rfl; have k2 : w12.cell? ⟨w.heap.size, 2, none⟩ = some (.int .i64 r) := (blk_cell B0.out 2).trans rfl; have k3 : w12.cell? ⟨w.heap.size, 3, none⟩ = some (.int .i64 c) := (blk_cell B0.out 3).trans rfl; have k4 : w12.cell? ⟨w.heap.size, 4, none⟩ = some (.int .i64 r2) := (blk_cell B0.out 4).trans rfl; have k5 : w12.cell? ⟨w.heap.size, 5, none⟩ = some (.int .i64 c2) := (blk_cell B0.out 5).trans rfl; have k6 : w12.cell? ⟨w.heap.size, 6, none⟩ = some (.bool x) := (blk_cell B0.out 6).trans rfl; have k7 : w12.cell? ⟨w.heap.size, 7, none⟩ = some (.bool y) := (blk_cell B0.out 7).trans rfl; have k8 : w12.cell? ⟨w.heap.size, 8, none⟩ = some (.bool x2) := (blk_cell B0.out 8).trans rfl; have k9 : w12.cell? ⟨w.heap.size, 9, none⟩ = some (.bool y2) := (blk_cell B0.out 9).trans rfl; have z12 := blk_lt B0.out))
        go_ret
        exact ⟨rfl, bl HW.out⟩
end Go.Proofs.YtefhcgnamfnkbaaDoor.Pr

