/- cellref.Parse, walked. -/
import Derived.Test.YtefhcgnamfnkbaaDoorParseF
import Derived.Test.YtefhcgnamfnkbaaDoorTen
namespace Go.Proofs.YtefhcgnamfnkbaaDoor.Pr
open Go.RowKit Go.Proofs.YtefhcgnamfnkbaaDoorW.PrintWords Go.Proofs.YtefhcgnamfnkbaaDoorW.PrintLast Go.Proofs.YtefhcgnamfnkbaaDoorW.PrintMore
theorem store4 {w w1 : World} {b : Nat} {x0 x1 x2 x3 : Value} (hZ : w1.heap[b]? = some (.cells #[x0, x1, x2, x3] 107 (0, 0))) (hW : Below w.heap.size w w1) (hg : w.heap.size ≤ b) (v0 v1 v2 v3 : Value) :
    ((((w1.setCell ⟨b, 0, none⟩ v0).setCell ⟨b, 1, none⟩ v1).setCell ⟨b, 2, none⟩ v2).setCell ⟨b, 3, none⟩ v3).heap[b]? = some (.cells #[v0, v1, v2, v3] 107 (0, 0)) ∧
    Below w.heap.size w ((((w1.setCell ⟨b, 0, none⟩ v0).setCell ⟨b, 1, none⟩ v1).setCell ⟨b, 2, none⟩ v2).setCell ⟨b, 3, none⟩ v3) := by
  constructor
  · replace hZ := blk_put (cs' := #[v0, x1, x2, x3]) hZ 0 v0 rfl
    replace hZ := blk_put (cs' := #[v0, v1, x2, x3]) hZ 1 v1 rfl
    replace hZ := blk_put (cs' := #[v0, v1, v2, x3]) hZ 2 v2 rfl
    exact blk_put (cs' := #[v0, v1, v2, v3]) hZ 3 v3 rfl
  · replace hW := below_set (j := 0) (v := v0) hW hg
    replace hW := below_set (j := 1) (v := v1) hW hg
    replace hW := below_set (j := 2) (v := v2) hW hg
    exact below_set (j := 3) (v := v3) hW hg
theorem far4 {w1 : World} {b b' : Nat} {cs : Array Value} {t : TypeId} (h : w1.heap[b']? = some (.cells cs t (0, 0))) (hn : b' ≠ b) (v0 v1 v2 v3 : Value) :
    ((((w1.setCell ⟨b, 0, none⟩ v0).setCell ⟨b, 1, none⟩ v1).setCell ⟨b, 2, none⟩ v2).setCell ⟨b, 3, none⟩ v3).heap[b']? = some (.cells cs t (0, 0)) :=
  blk_far (p := ⟨b, 3, none⟩) (blk_far (p := ⟨b, 2, none⟩) (blk_far (p := ⟨b, 1, none⟩) (blk_far (p := ⟨b, 0, none⟩) h hn v0) hn v1) hn v2) hn v3
/-- What Parse goes by, once the corners are read. -/
theorem parse_rel {k : Nat} {title last : ByteArray} {ok two fine good aC aR bC bR : Bool} {aL aN bL bN : ByteArray} {r : RefE}
    (hh : (if two = true then (cellref_place.f last).bind fun q => parseTwo k title ok (aL, aN, aC, aR, fine) q else parseOne k title ok (aL, aN, aC, aR, fine)) = some r)
    (hs : (two = true → cellref_place.f last = some (bL, bN, bC, bR, good)) ∧ (two = false → (bL, bN, bC, bR, good) = (aL, aN, aC, aR, true))) :
    (formB ok fine good (noL aL) (noL aN) (noL bL) (noL bN) two = false → r = noRef 10) ∧
    (formB ok fine good (noL aL) (noL aN) (noL bL) (noL bN) two = true → ∃ v1 v2 v3 : Int, cellref_corner_values.f k aL aN aC aR = some (v1, v2, v3) ∧ (v3 ≠ 0 → r = noRef v3) ∧
      (v3 = 0 → (two = true → ∃ u1 u2 u3 : Int, cellref_corner_values.f k bL bN bC bR = some (u1, u2, u3) ∧ (u3 ≠ 0 → r = noRef u3) ∧ (u3 = 0 → refEnd k title (kindOf (noL aL) (noL aN)) v1 v2 u1 u2 aR aC bR bC = some r)) ∧
        (two = false → refEnd k title 0 v1 v2 0 0 aR aC false false = some r))) := by
  cases two with
  | true =>
    rw [if_pos rfl, hs.1 rfl, Option.bind_some] at hh
    unfold parseTwo at hh
    constructor
    · intro hf
      rw [if_neg (by show ¬ _ = true; rw [hf]; decide)] at hh
      exact (Option.some.inj hh).symm
    · intro hf
      rw [if_pos (by exact hf)] at hh
      obtain ⟨⟨v1, v2, v3⟩, hv, hh⟩ := Option.bind_eq_some_iff.1 hh
      refine ⟨v1, v2, v3, hv, fun h3 => ?_, fun h3 => ⟨fun _ => ?_, fun h => (by cases h)⟩⟩
      · rw [if_neg h3] at hh
        exact (Option.some.inj hh).symm
      · rw [if_pos h3] at hh
        obtain ⟨⟨u1, u2, u3⟩, hu, hh⟩ := Option.bind_eq_some_iff.1 hh
        refine ⟨u1, u2, u3, hu, fun h4 => ?_, fun h4 => ?_⟩
        · rw [if_neg h4] at hh
          exact (Option.some.inj hh).symm
        · rw [if_pos h4] at hh
          exact hh
  | false =>
    have hb := hs.2 rfl
    simp only [Prod.mk.injEq] at hb
    obtain ⟨rfl, rfl, rfl, rfl, rfl⟩ := hb
    rw [if_neg (by decide)] at hh
    unfold parseOne at hh
    constructor
    · intro hf
      rw [if_neg (by show ¬ _ = true; rw [hf]; decide)] at hh
      exact (Option.some.inj hh).symm
    · intro hf
      rw [if_pos (by exact hf)] at hh
      obtain ⟨⟨v1, v2, v3⟩, hv, hh⟩ := Option.bind_eq_some_iff.1 hh
      refine ⟨v1, v2, v3, hv, fun h3 => ?_, fun h3 => ⟨fun h => (by cases h), fun _ => ?_⟩⟩
      · rw [if_neg h3] at hh
        exact (Option.some.inj hh).symm
      · rw [if_pos h3] at hh
        exact hh
/-- What its end makes of a reference. -/
theorem refEnd_rel {k : Nat} {s : ByteArray} {d n c n2 c2 : Int} {a b a2 b2 : Bool} {r : RefE} (h : refEnd k s d n c n2 c2 a b a2 b2 = some r) :
    ∃ (o1 : ByteArray) (o2 o3 o4 o5 o6 : Int) (o7 o8 o9 o10 : Bool) (e : Int), cellref_ordered.f s d n c n2 c2 a b a2 b2 = some (o1, o2, o3, o4, o5, o6, o7, o8, o9, o10) ∧ cellref_Check.f k o1 o2 o3 o4 o5 o6 o7 o8 o9 o10 = some e ∧ (e = 0 → r = (o1, o2, o3, o4, o5, o6, o7, o8, o9, o10, 0)) ∧ (e ≠ 0 → r = noRef e) := by
  obtain ⟨⟨o1, o2, o3, o4, o5, o6, o7, o8, o9, o10⟩, ho, h⟩ := Option.bind_eq_some_iff.1 h
  obtain ⟨e, he, h⟩ := Option.bind_eq_some_iff.1 h
  refine ⟨o1, o2, o3, o4, o5, o6, o7, o8, o9, o10, e, ho, he, fun h0 => ?_, fun h0 => ?_⟩
  · rw [if_pos h0] at h
    exact (Option.some.inj h).symm
  · rw [if_neg h0] at h
    exact (Option.some.inj h).symm
set_option maxHeartbeats 8000000 in
set_option maxRecDepth 100000 in
theorem cellref_Parse.calls (k : Nat) (a0 : ByteArray) (r1 : ByteArray) (r2 r3 r4 r5 r6 : Int) (r7 r8 r9 r10 : Bool) (r11 : Int) (w : World) (hGl : Gl w) (h : cellref_Parse.f k a0 = some (r1, r2, r3, r4, r5, r6, r7, r8, r9, r10, r11)) :
    Calls Tryd.prog 22 #[.string a0] w fun e w' => e = .returned (.tuple #[.agg #[.string r1, .int .i64 r2, .int .i64 r3, .int .i64 r4, .int .i64 r5, .int .i64 r6, .bool r7, .bool r8, .bool r9, .bool r10], .int .i64 r11]) ∧ Below w.heap.size w w' := by
  unfold cellref_Parse.f at h
  by_cases g1 : 500 < a0.size
  · rw [if_pos g1] at h
    simp only [noRef, Option.some.injEq, Prod.mk.injEq] at h
    obtain ⟨rfl, rfl, rfl, rfl, rfl, rfl, rfl, rfl, rfl, rfl, rfl⟩ := h
    have d1 : decide ((a0.size : Int) > 500) = true := decide_eq_true (by omega)
    have d2 : decide ((500 : Int) < (a0.size : Int)) = true := decide_eq_true (by omega)
    clear g1
    as_aux_lemma =>
     go_enter Tryd.func22, Tryd.ntmps22
     go_wp2
     refine bodyPost_ret (results_ct rfl _ _ (w.heap.size) 44 #[.string ⟨#[]⟩, .int .i64 0, .int .i64 0, .int .i64 0, .int .i64 0, .int .i64 0, .bool false, .bool false, .bool false, .bool false] (0, 0) _ rfl (blk_new w (Obj.cells #[.string ⟨#[]⟩, .int .i64 0, .int .i64 0, .int .i64 0, .int .i64 0, .int .i64 0, .bool false, .bool false, .bool false, .bool false] 44)) Tryd.underlying44 rfl (by kernel_rfl)) rfl ?_
     exact ⟨rfl, below_alloc (Below.refl w.heap.size w) (Obj.cells #[.string ⟨#[]⟩, .int .i64 0, .int .i64 0, .int .i64 0, .int .i64 0, .int .i64 0, .bool false, .bool false, .bool false, .bool false] 44)⟩
  · rw [if_neg g1] at h
    have d1 : decide ((a0.size : Int) > 500) = false := decide_eq_false (by omega)
    have d2 : decide ((500 : Int) < (a0.size : Int)) = false := decide_eq_false (by omega)
    clear g1
    by_cases g2 : a0.toList = [35, 82, 69, 70, 33]
    · rw [if_pos g2] at h
      simp only [Option.some.injEq, Prod.mk.injEq] at h
      obtain ⟨rfl, rfl, rfl, rfl, rfl, rfl, rfl, rfl, rfl, rfl, rfl⟩ := h
      have e1 : (a0.toList == [35, 82, 69, 70, 33]) = true := beq_iff_eq.2 g2
      clear g2
      as_aux_lemma =>
       go_enter Tryd.func22, Tryd.ntmps22
       go_wp2
       refine bodyPost_ret (results_ct rfl _ _ (w.heap.size) 44 #[.string ⟨#[]⟩, .int .i64 4, .int .i64 0, .int .i64 0, .int .i64 0, .int .i64 0, .bool false, .bool false, .bool false, .bool false] (0, 0) _ rfl (blk_new w (Obj.cells #[.string ⟨#[]⟩, .int .i64 4, .int .i64 0, .int .i64 0, .int .i64 0, .int .i64 0, .bool false, .bool false, .bool false, .bool false] 44)) Tryd.underlying44 rfl (by kernel_rfl)) rfl ?_
       exact ⟨rfl, below_alloc (Below.refl w.heap.size w) (Obj.cells #[.string ⟨#[]⟩, .int .i64 4, .int .i64 0, .int .i64 0, .int .i64 0, .int .i64 0, .bool false, .bool false, .bool false, .bool false] 44)⟩
    · rw [if_neg g2] at h
      have e1 : (a0.toList == [35, 82, 69, 70, 33]) = false := beq_eq_false_iff_ne.2 g2
      clear g2
      obtain ⟨⟨title, rest, ok⟩, hsh, h⟩ := Option.bind_eq_some_iff.1 h
      obtain ⟨⟨first, last, two⟩, hcu, h⟩ := Option.bind_eq_some_iff.1 h
      obtain ⟨⟨aL, aN, aC, aR, fine⟩, hpa, h⟩ := Option.bind_eq_some_iff.1 h
      have HSH := Aside0.mk hsh
      have HCU := Aside0.mk hcu
      have HPA := Aside0.mk hpa
      have HH := Aside0.mk h
      clear h hsh hcu hpa
      go_enter Tryd.func22, Tryd.ntmps22
      go_wp2_with fail
      have hW0 := below_alloc (Below.refl w.heap.size w) (Obj.cells #[.string ⟨#[]⟩, .int .i64 0, .int .i64 0, .int .i64 0, .int .i64 0, .int .i64 0, .bool false, .bool false, .bool false, .bool false] 44)
      have hR0 := blk_new w (Obj.cells #[.string ⟨#[]⟩, .int .i64 0, .int .i64 0, .int .i64 0, .int .i64 0, .int .i64 0, .bool false, .bool false, .bool false, .bool false] 44)
      refine (cellref_sheet.calls k _ _ _ _ _ (gl_below hGl hW0) HSH.out).mono ?_
      rintro e w1 ⟨rfl, hb1⟩
      have HW1 := Aside0.mk (below_step hW0 hb1)
      have HR1 := Aside0.mk (blk_below hR0 hb1)
      clear hW0 hR0 hb1 d1 d2 e1
      go_wp2_with fail
      refine (strings_Cut.calls _ _ _ _ _ _ (gl_below hGl HW1.out) HCU.out).mono ?_
      rintro e w' ⟨rfl, ⟨n, rfl⟩⟩
      go_wp2_with fail
      refine (cellref_place.calls _ _ _ _ _ _ _ (gl_below hGl (pw_below_drewN HW1.out n)) HPA.out).mono ?_
      rintro e w2 ⟨rfl, hb2⟩
      have HW2 := Aside0.mk (below_step (pw_below_drewN HW1.out n) hb2)
      have HR2 := Aside0.mk (blk_below (blk_drewN HR1.out n) hb2)
      have hlt := Aside0.mk (blk_lt HR2.out)
      clear hb2 HW1 HR1 HSH HCU HPA
      have hW := below_alloc (below_alloc HW2.out (Obj.cells #[.string aL, .string aN, .bool aC, .bool aR] 107)) (Obj.cells #[.string aL, .string aN, .bool aC, .bool aR] 107)
      have hR := blk_alloc (blk_alloc HR2.out (Obj.cells #[.string aL, .string aN, .bool aC, .bool aR] 107)) (Obj.cells #[.string aL, .string aN, .bool aC, .bool aR] 107)
      have hA := blk_alloc (blk_new w2 (Obj.cells #[.string aL, .string aN, .bool aC, .bool aR] 107)) (Obj.cells #[.string aL, .string aN, .bool aC, .bool aR] 107)
      have hB := blk_new (w2.alloc (Obj.cells #[.string aL, .string aN, .bool aC, .bool aR] 107)) (Obj.cells #[.string aL, .string aN, .bool aC, .bool aR] 107)
      have hS : (w2.alloc (Obj.cells #[.string aL, .string aN, .bool aC, .bool aR] 107)).heap.size = w2.heap.size + 1 := by simp
      rw [hS] at hB
      go_upto_if 44 with (fail)
      obtain ⟨w3, hw3⟩ : ∃ w3, w3 = (w2.alloc (Obj.cells #[.string aL, .string aN, .bool aC, .bool aR] 107)).alloc (Obj.cells #[.string aL, .string aN, .bool aC, .bool aR] 107) := ⟨_, rfl⟩
      rw [← hw3] at hW hR hA hB ⊢
      have HW3 := Aside0.mk hW
      have HR3 := Aside0.mk hR
      have HA3 := Aside0.mk hA
      have HB3 := Aside0.mk hB
      clear hW hR hA hB hS hw3 HW2 HR2
      go_cut [13] (fun v13 wc => ∃ (bL bN : ByteArray) (bC bR good : Bool), v13 = .bool good ∧ Aside0 ((two = true → cellref_place.f last = some (bL, bN, bC, bR, good)) ∧ (two = false → (bL, bN, bC, bR, good) = (aL, aN, aC, aR, true))) ∧ Aside0 (wc.heap[w2.heap.size]? = some (.cells #[.string aL, .string aN, .bool aC, .bool aR] 107 (0, 0))) ∧ Aside0 (wc.heap[w2.heap.size + 1]? = some (.cells #[.string bL, .string bN, .bool bC, .bool bR] 107 (0, 0))) ∧ Aside0 (wc.heap[w.heap.size]? = some (.cells #[.string ⟨#[]⟩, .int .i64 0, .int .i64 0, .int .i64 0, .int .i64 0, .int .i64 0, .bool false, .bool false, .bool false, .bool false] 44 (0, 0))) ∧ Aside0 (Below w.heap.size w wc))
      case first =>
        as_aux_lemma =>
         cases two with
         | true =>
           obtain ⟨⟨bL, bN, bC, bR, good⟩, hpb, _⟩ := Option.bind_eq_some_iff.1 (show ((cellref_place.f last).bind fun q => parseTwo k title ok (aL, aN, aC, aR, fine) q) = some _ from HH.out)
           have HPB := Aside0.mk hpb
           clear hpb
           go_wp2_with fail
           refine (cellref_place.calls _ _ _ _ _ _ _ (gl_below hGl HW3.out) HPB.out).mono ?_
           rintro e w4 ⟨rfl, hb⟩
           have HW4 := Aside0.mk (below_step HW3.out hb)
           have HR4 := Aside0.mk (blk_below HR3.out hb)
           have HA4 := Aside0.mk (blk_below HA3.out hb)
           have HB4 := Aside0.mk (blk_below HB3.out hb)
           clear hb HW3 HR3 HA3 HB3
           have bc0 := (blk_cell HB4.out 0).trans rfl
           have bf0 := blk_frozen HB4.out 0
           have bc1 := (blk_cell HB4.out 1).trans rfl
           have bf1 := blk_frozen HB4.out 1
           have bc2 := (blk_cell HB4.out 2).trans rfl
           have bf2 := blk_frozen HB4.out 2
           have bc3 := (blk_cell HB4.out 3).trans rfl
           have bf3 := blk_frozen HB4.out 3
           go_wp2
           clear bc0 bf0 bc1 bf1 bc2 bf2 bc3 bf3
           have hl := hlt.out
           have hB := store4 (b := w2.heap.size + 1) HB4.out HW4.out (by omega) (.string bL) (.string bN) (.bool bC) (.bool bR)
           have hA := far4 (b := w2.heap.size + 1) HA4.out (by omega) (.string bL) (.string bN) (.bool bC) (.bool bR)
           have hR := far4 (b := w2.heap.size + 1) HR4.out (by omega) (.string bL) (.string bN) (.bool bC) (.bool bR)
           obtain ⟨wz, hwz⟩ : ∃ wz, wz = ((((w4.setCell ⟨w2.heap.size + 1, 0, none⟩ (.string bL)).setCell ⟨w2.heap.size + 1, 1, none⟩ (.string bN)).setCell ⟨w2.heap.size + 1, 2, none⟩ (.bool bC)).setCell ⟨w2.heap.size + 1, 3, none⟩ (.bool bR)) := ⟨_, rfl⟩
           rw [← hwz] at hB hA hR ⊢
           clear hwz hl
           go_meet
           case rel => exact ⟨bL, bN, bC, bR, good, rfl, ⟨fun _ => HPB.out, fun h => (by cases h)⟩, ⟨hA⟩, ⟨hB.1⟩, ⟨hR⟩, ⟨hB.2⟩⟩
         | false =>
           go_wp2
           go_meet
           case rel => exact ⟨aL, aN, aC, aR, true, rfl, ⟨fun h => (by cases h), fun _ => rfl⟩, HA3, HB3, HR3, HW3⟩
      case rest =>
        clear HW3 HR3 HA3 HB3
        obtain ⟨bL, bN, bC, bR, good, rfl, HS, HA, HB, HR, HW⟩ := hcut
        have HREL := Aside0.mk (parse_rel HH.out HS.out)
        clear HH HS
        go_upto_region 11 with (fail)
        go_cut [14] (fun v14 wx => ∃ x : Bool, v14 = .bool x ∧ x = (!noL aL && !noL aN) ∧ wx = wc)
        case first =>
          as_aux_lemma =>
           have ac0 := (blk_cell HA.out 0).trans rfl
           have ac1 := (blk_cell HA.out 1).trans rfl
           cases hxa : noL aL with
          | true =>
             have xa1 : aL.toList.isEmpty = true := hxa
             have xa2 : (!aL.toList.isEmpty) = false := by rw [xa1]; rfl
             have xa3 : (aL.toList == []) = true := by rw [← xa1]; cases aL.toList <;> rfl
             have xa4 : (aL.toList != []) = false := by unfold bne; rw [xa3]; rfl
             go_wp2
             go_meet
             case rel => exact ⟨_, rfl, by simp [hxa], rfl⟩
           | false =>
             have xa1 : aL.toList.isEmpty = false := hxa
             have xa2 : (!aL.toList.isEmpty) = true := by rw [xa1]; rfl
             have xa3 : (aL.toList == []) = false := by rw [← xa1]; cases aL.toList <;> rfl
             have xa4 : (aL.toList != []) = true := by unfold bne; rw [xa3]; rfl
             cases hxn : noL aN with
             | true =>
               have xn1 : aN.toList.isEmpty = true := hxn
               have xn2 : (!aN.toList.isEmpty) = false := by rw [xn1]; rfl
               have xn3 : (aN.toList == []) = true := by rw [← xn1]; cases aN.toList <;> rfl
               have xn4 : (aN.toList != []) = false := by unfold bne; rw [xn3]; rfl
               go_wp2
               go_meet
               case rel => exact ⟨_, rfl, by simp [hxa, hxn], rfl⟩
             | false =>
               have xn1 : aN.toList.isEmpty = false := hxn
               have xn2 : (!aN.toList.isEmpty) = true := by rw [xn1]; rfl
               have xn3 : (aN.toList == []) = false := by rw [← xn1]; cases aN.toList <;> rfl
               have xn4 : (aN.toList != []) = true := by unfold bne; rw [xn3]; rfl
               go_wp2
               go_meet
               case rel => exact ⟨_, rfl, by simp [hxa, hxn], rfl⟩
        case rest =>
          obtain ⟨xb, rfl, hxb, rfl⟩ := hcut
          subst hxb
          go_upto_region 12 with (fail)
          go_cut [14, 93] (fun v14 v93 wx => ∃ x y : Bool, v14 = .bool x ∧ v93 = .bool y ∧ x = (!noL aL && !noL aN) ∧ y = (!formB ok fine good (noL aL) (noL aN) (noL bL) (noL bN) two) ∧ wx = wc)
          case first =>
            as_aux_lemma =>
             have ac0 := (blk_cell HA.out 0).trans rfl
             have ac1 := (blk_cell HA.out 1).trans rfl
             have bc0 := (blk_cell HB.out 0).trans rfl
             have bc1 := (blk_cell HB.out 1).trans rfl
             cases ok with
             | false =>
               go_wp2
               go_meet
               case rel => exact ⟨_, _, rfl, rfl, by simp [*], by simp [formB, *], rfl⟩
             | true =>
               cases fine with
               | false =>
                 go_wp2
                 go_meet
                 case rel => exact ⟨_, _, rfl, rfl, by simp [*], by simp [formB, *], rfl⟩
               | true =>
                 cases good with
                 | false =>
                   go_wp2
                   go_meet
                   case rel => exact ⟨_, _, rfl, rfl, by simp [*], by simp [formB, *], rfl⟩
                 | true =>
                   cases hx1 : (noL aL == noL bL) with
                   | false =>
                     have y11 : (aL.toList.isEmpty != bL.toList.isEmpty) = true := by show (!(noL aL == noL bL)) = true; rw [hx1]; rfl
                     have y12 : (aL.toList.isEmpty == bL.toList.isEmpty) = false := hx1
                     go_wp2
                     go_meet
                     case rel => exact ⟨_, _, rfl, rfl, by simp [*], by simp [formB, *], rfl⟩
                   | true =>
                     have y11 : (aL.toList.isEmpty != bL.toList.isEmpty) = false := by show (!(noL aL == noL bL)) = false; rw [hx1]; rfl
                     have y12 : (aL.toList.isEmpty == bL.toList.isEmpty) = true := hx1
                     cases hx2 : (noL aN == noL bN) with
                     | false =>
                       have y21 : (aN.toList.isEmpty != bN.toList.isEmpty) = true := by show (!(noL aN == noL bN)) = true; rw [hx2]; rfl
                       have y22 : (aN.toList.isEmpty == bN.toList.isEmpty) = false := hx2
                       go_wp2
                       go_meet
                       case rel => exact ⟨_, _, rfl, rfl, by simp [*], by simp [formB, *], rfl⟩
                     | true =>
                       have y21 : (aN.toList.isEmpty != bN.toList.isEmpty) = false := by show (!(noL aN == noL bN)) = false; rw [hx2]; rfl
                       have y22 : (aN.toList.isEmpty == bN.toList.isEmpty) = true := hx2
                       cases two with
                       | true =>
                         go_wp2
                         go_meet
                         case rel => exact ⟨_, _, rfl, rfl, by simp [*], by simp [formB, *], rfl⟩
                       | false =>
                         go_wp2
                         go_meet
                         case rel => exact ⟨_, _, rfl, rfl, by simp [*], by simp [formB, *], rfl⟩
          case rest =>
            obtain ⟨xb, yb, rfl, rfl, hxb, hyb, rfl⟩ := hcut
            subst hxb hyb
            have hrel := HREL.out
            clear HREL
            cases hfb : formB ok fine good (noL aL) (noL aN) (noL bL) (noL bN) two with
            | false =>
              have hr := hrel.1 hfb
              simp only [noRef, Prod.mk.injEq] at hr
              obtain ⟨rfl, rfl, rfl, rfl, rfl, rfl, rfl, rfl, rfl, rfl, rfl⟩ := hr
              clear hrel
              have rc0 := (blk_cell HR.out 0).trans rfl
              have rf0 := blk_frozen HR.out 0
              have rc1 := (blk_cell HR.out 1).trans rfl
              have rf1 := blk_frozen HR.out 1
              have rc2 := (blk_cell HR.out 2).trans rfl
              have rf2 := blk_frozen HR.out 2
              have rc3 := (blk_cell HR.out 3).trans rfl
              have rf3 := blk_frozen HR.out 3
              have rc4 := (blk_cell HR.out 4).trans rfl
              have rf4 := blk_frozen HR.out 4
              have rc5 := (blk_cell HR.out 5).trans rfl
              have rf5 := blk_frozen HR.out 5
              have rc6 := (blk_cell HR.out 6).trans rfl
              have rf6 := blk_frozen HR.out 6
              have rc7 := (blk_cell HR.out 7).trans rfl
              have rf7 := blk_frozen HR.out 7
              have rc8 := (blk_cell HR.out 8).trans rfl
              have rf8 := blk_frozen HR.out 8
              have rc9 := (blk_cell HR.out 9).trans rfl
              have rf9 := blk_frozen HR.out 9
              go_wp2
              clear rc0 rf0 rc1 rf1 rc2 rf2 rc3 rf3 rc4 rf4 rc5 rf5 rc6 rf6 rc7 rf7 rc8 rf8 rc9 rf9
              obtain ⟨hf, hw⟩ := store10 (b := w.heap.size) HR.out HW.out (Nat.le_refl _) (.string ⟨#[]⟩) (.int .i64 0) (.int .i64 0) (.int .i64 0) (.int .i64 0) (.int .i64 0) (.bool false) (.bool false) (.bool false) (.bool false)
              obtain ⟨wz, hwz⟩ : ∃ wz, wz = ((((((((((wc.setCell ⟨w.heap.size, 0, none⟩ (.string ⟨#[]⟩)).setCell ⟨w.heap.size, 1, none⟩ (.int .i64 0)).setCell ⟨w.heap.size, 2, none⟩ (.int .i64 0)).setCell ⟨w.heap.size, 3, none⟩ (.int .i64 0)).setCell ⟨w.heap.size, 4, none⟩ (.int .i64 0)).setCell ⟨w.heap.size, 5, none⟩ (.int .i64 0)).setCell ⟨w.heap.size, 6, none⟩ (.bool false)).setCell ⟨w.heap.size, 7, none⟩ (.bool false)).setCell ⟨w.heap.size, 8, none⟩ (.bool false)).setCell ⟨w.heap.size, 9, none⟩ (.bool false)) := ⟨_, rfl⟩
              rw [← hwz] at hf hw ⊢
              clear hwz
              refine bodyPost_ret (results_ct rfl _ _ (w.heap.size) 44 #[.string ⟨#[]⟩, .int .i64 0, .int .i64 0, .int .i64 0, .int .i64 0, .int .i64 0, .bool false, .bool false, .bool false, .bool false] (0, 0) _ rfl hf Tryd.underlying44 rfl (by kernel_rfl)) rfl ?_
              exact ⟨rfl, hw⟩
            | true =>
              obtain ⟨v1, v2, v3, hv, hv3, hv0⟩ := hrel.2 hfb
              clear hrel hfb
              have HV := Aside0.mk hv
              have HV3 := Aside0.mk hv3
              have HV0 := Aside0.mk hv0
              clear hv hv3 hv0
              have ac0 := (blk_cell (blk_alloc HA.out (Obj.cells #[.string title, .int .i64 0, .int .i64 0, .int .i64 0, .int .i64 0, .int .i64 0, .bool aR, .bool aC, .bool false, .bool false] 44)) 0).trans rfl
              have ac1 := (blk_cell (blk_alloc HA.out (Obj.cells #[.string title, .int .i64 0, .int .i64 0, .int .i64 0, .int .i64 0, .int .i64 0, .bool aR, .bool aC, .bool false, .bool false] 44)) 1).trans rfl
              have ac2 := (blk_cell (blk_alloc HA.out (Obj.cells #[.string title, .int .i64 0, .int .i64 0, .int .i64 0, .int .i64 0, .int .i64 0, .bool aR, .bool aC, .bool false, .bool false] 44)) 2).trans rfl
              have ac3 := (blk_cell (blk_alloc HA.out (Obj.cells #[.string title, .int .i64 0, .int .i64 0, .int .i64 0, .int .i64 0, .int .i64 0, .bool aR, .bool aC, .bool false, .bool false] 44)) 3).trans rfl
              have dc2 := (blk_cell HA.out 2).trans rfl
              have dc3 := (blk_cell HA.out 3).trans rfl
              go_wp2_with fail
              clear ac0 ac1 ac2 ac3
              clear dc2 dc3
              have hW := below_alloc HW.out (Obj.cells #[.string title, .int .i64 0, .int .i64 0, .int .i64 0, .int .i64 0, .int .i64 0, .bool aR, .bool aC, .bool false, .bool false] 44)
              have hR := blk_alloc HR.out (Obj.cells #[.string title, .int .i64 0, .int .i64 0, .int .i64 0, .int .i64 0, .int .i64 0, .bool aR, .bool aC, .bool false, .bool false] 44)
              have hA := blk_alloc HA.out (Obj.cells #[.string title, .int .i64 0, .int .i64 0, .int .i64 0, .int .i64 0, .int .i64 0, .bool aR, .bool aC, .bool false, .bool false] 44)
              have hB := blk_alloc HB.out (Obj.cells #[.string title, .int .i64 0, .int .i64 0, .int .i64 0, .int .i64 0, .int .i64 0, .bool aR, .bool aC, .bool false, .bool false] 44)
              have hK := blk_new wc (Obj.cells #[.string title, .int .i64 0, .int .i64 0, .int .i64 0, .int .i64 0, .int .i64 0, .bool aR, .bool aC, .bool false, .bool false] 44)
              have hlA := blk_lt HA.out
              have hlB := blk_lt HB.out
              have hlR := blk_lt HR.out
              refine (cellref_corner_values.calls k _ _ _ _ _ _ _ _ (gl_below hGl hW) HV.out).mono ?_
              rintro e w4 ⟨rfl, hb⟩
              have HW4 := Aside0.mk (below_step hW hb)
              have HR4 := Aside0.mk (blk_below hR hb)
              have HA4 := Aside0.mk (blk_below hA hb)
              have HB4 := Aside0.mk (blk_below hB hb)
              have HK4 := Aside0.mk (blk_below hK hb)
              clear hb hW hR hA hB hK HW HR HA HB HV
              obtain ⟨q, hq⟩ : ∃ q, q = wc.heap.size := ⟨_, rfl⟩
              rw [← hq] at HK4 hlA hlB hlR ⊢
              have HLA := Aside0.mk hlA
              have HLB := Aside0.mk hlB
              have HLR := Aside0.mk hlR
              clear hq hlA hlB hlR
              have kc0 := (blk_cell HK4.out 0).trans rfl
              have kf0 := blk_frozen HK4.out 0
              have kc1 := (blk_cell HK4.out 1).trans rfl
              have kf1 := blk_frozen HK4.out 1
              have kc2 := (blk_cell HK4.out 2).trans rfl
              have kf2 := blk_frozen HK4.out 2
              have kc3 := (blk_cell HK4.out 3).trans rfl
              have kf3 := blk_frozen HK4.out 3
              have kc4 := (blk_cell HK4.out 4).trans rfl
              have kf4 := blk_frozen HK4.out 4
              have kc5 := (blk_cell HK4.out 5).trans rfl
              have kf5 := blk_frozen HK4.out 5
              have kc6 := (blk_cell HK4.out 6).trans rfl
              have kf6 := blk_frozen HK4.out 6
              have kc7 := (blk_cell HK4.out 7).trans rfl
              have kf7 := blk_frozen HK4.out 7
              have kc8 := (blk_cell HK4.out 8).trans rfl
              have kf8 := blk_frozen HK4.out 8
              have kc9 := (blk_cell HK4.out 9).trans rfl
              have kf9 := blk_frozen HK4.out 9
              have la := HLA.out
              have lb := HLB.out
              have lr := HLR.out
              by_cases z3 : v3 = 0
              · subst z3
                have hv0 := HV0.out rfl
                clear HV0 HV3
                clear la lb lr
                go_upto_if 113 with (fail)
                have la := HLA.out
                have lb := HLB.out
                have lr := HLR.out
                clear kc0 kf0 kc1 kf1 kc2 kf2 kc3 kf3 kc4 kf4 kc5 kf5 kc6 kf6 kc7 kf7 kc8 kf8 kc9 kf9
                have hK := (blk_put (cs' := #[.string title, .int .i64 0, .int .i64 v1, .int .i64 v2, .int .i64 0, .int .i64 0, .bool aR, .bool aC, .bool false, .bool false]) (blk_put (cs' := #[.string title, .int .i64 0, .int .i64 v1, .int .i64 0, .int .i64 0, .int .i64 0, .bool aR, .bool aC, .bool false, .bool false]) HK4.out 2 (.int .i64 v1) rfl) 3 (.int .i64 v2) rfl)
                have hR := (blk_far (p := ⟨q, 3, none⟩) (blk_far (p := ⟨q, 2, none⟩) HR4.out (by show w.heap.size ≠ q; omega) (.int .i64 v1)) (by show w.heap.size ≠ q; omega) (.int .i64 v2))
                have hA := (blk_far (p := ⟨q, 3, none⟩) (blk_far (p := ⟨q, 2, none⟩) HA4.out (by show w2.heap.size ≠ q; omega) (.int .i64 v1)) (by show w2.heap.size ≠ q; omega) (.int .i64 v2))
                have hB := (blk_far (p := ⟨q, 3, none⟩) (blk_far (p := ⟨q, 2, none⟩) HB4.out (by show w2.heap.size + 1 ≠ q; omega) (.int .i64 v1)) (by show w2.heap.size + 1 ≠ q; omega) (.int .i64 v2))
                have hW := (below_set (j := 3) (v := (.int .i64 v2)) (below_set (j := 2) (v := (.int .i64 v1)) HW4.out (g := q) (by omega)) (g := q) (by omega))
                obtain ⟨w5, hw5⟩ : ∃ w5, w5 = ((w4.setCell ⟨q, 2, none⟩ (.int .i64 v1)).setCell ⟨q, 3, none⟩ (.int .i64 v2)) := ⟨_, rfl⟩
                rw [← hw5] at hK hR hA hB hW ⊢
                have HW5 := Aside0.mk hW
                have HR5 := Aside0.mk hR
                have HA5 := Aside0.mk hA
                have HB5 := Aside0.mk hB
                have HK5 := Aside0.mk hK
                clear hw5 hK hR hA hB hW HW4 HR4 HA4 HB4 HK4
                clear la lb lr
                cases two with
                | false =>
                  obtain ⟨o1, o2, o3, o4, o5, o6, o7, o8, o9, o10, e0, ho, he, hr0, hr1⟩ := refEnd_rel (hv0.2 rfl)
                  have HO := Aside0.mk ho
                  have HE := Aside0.mk he
                  have HQ := Aside0.mk hr0
                  have HU := Aside0.mk hr1
                  clear ho he hr0 hr1
                  have kc0 := (blk_cell HK5.out 0).trans rfl
                  have kf0 := blk_frozen HK5.out 0
                  have kc1 := (blk_cell HK5.out 1).trans rfl
                  have kf1 := blk_frozen HK5.out 1
                  have kc2 := (blk_cell HK5.out 2).trans rfl
                  have kf2 := blk_frozen HK5.out 2
                  have kc3 := (blk_cell HK5.out 3).trans rfl
                  have kf3 := blk_frozen HK5.out 3
                  have kc4 := (blk_cell HK5.out 4).trans rfl
                  have kf4 := blk_frozen HK5.out 4
                  have kc5 := (blk_cell HK5.out 5).trans rfl
                  have kf5 := blk_frozen HK5.out 5
                  have kc6 := (blk_cell HK5.out 6).trans rfl
                  have kf6 := blk_frozen HK5.out 6
                  have kc7 := (blk_cell HK5.out 7).trans rfl
                  have kf7 := blk_frozen HK5.out 7
                  have kc8 := (blk_cell HK5.out 8).trans rfl
                  have kf8 := blk_frozen HK5.out 8
                  have kc9 := (blk_cell HK5.out 9).trans rfl
                  have kf9 := blk_frozen HK5.out 9
                  go_wp2_with fail
                  clear kc0 kf0 kc1 kf1 kc2 kf2 kc3 kf3 kc4 kf4 kc5 kf5 kc6 kf6 kc7 kf7 kc8 kf8 kc9 kf9
                  refine (cellref_ordered.calls _ _ _ _ _ _ _ _ _ _ _ _ _ _ _ _ _ _ _ _ _ (gl_below hGl HW5.out) HO.out).mono ?_
                  rintro e w6 ⟨rfl, hb⟩
                  have HW6 := Aside0.mk (below_step HW5.out hb)
                  have HR6 := Aside0.mk (blk_below HR5.out hb)
                  have HK6 := Aside0.mk (blk_below HK5.out hb)
                  clear hb HO HW5 HR5 HA5 HB5 HK5
                  have kc0 := (blk_cell HK6.out 0).trans rfl
                  have kf0 := blk_frozen HK6.out 0
                  have kc1 := (blk_cell HK6.out 1).trans rfl
                  have kf1 := blk_frozen HK6.out 1
                  have kc2 := (blk_cell HK6.out 2).trans rfl
                  have kf2 := blk_frozen HK6.out 2
                  have kc3 := (blk_cell HK6.out 3).trans rfl
                  have kf3 := blk_frozen HK6.out 3
                  have kc4 := (blk_cell HK6.out 4).trans rfl
                  have kf4 := blk_frozen HK6.out 4
                  have kc5 := (blk_cell HK6.out 5).trans rfl
                  have kf5 := blk_frozen HK6.out 5
                  have kc6 := (blk_cell HK6.out 6).trans rfl
                  have kf6 := blk_frozen HK6.out 6
                  have kc7 := (blk_cell HK6.out 7).trans rfl
                  have kf7 := blk_frozen HK6.out 7
                  have kc8 := (blk_cell HK6.out 8).trans rfl
                  have kf8 := blk_frozen HK6.out 8
                  have kc9 := (blk_cell HK6.out 9).trans rfl
                  have kf9 := blk_frozen HK6.out 9
                  go_wp2_with fail
                  clear kc0 kf0 kc1 kf1 kc2 kf2 kc3 kf3 kc4 kf4 kc5 kf5 kc6 kf6 kc7 kf7 kc8 kf8 kc9 kf9
                  have lr := HLR.out
                  obtain ⟨hK, hW⟩ := store10 (b := q) HK6.out HW6.out (by omega) (.string o1) (.int .i64 o2) (.int .i64 o3) (.int .i64 o4) (.int .i64 o5) (.int .i64 o6) (.bool o7) (.bool o8) (.bool o9) (.bool o10)
                  have hR := far10 (b := q) HR6.out (by omega) (.string o1) (.int .i64 o2) (.int .i64 o3) (.int .i64 o4) (.int .i64 o5) (.int .i64 o6) (.bool o7) (.bool o8) (.bool o9) (.bool o10)
                  obtain ⟨w7, hw7⟩ : ∃ w7, w7 = ((((((((((w6.setCell ⟨q, 0, none⟩ (.string o1)).setCell ⟨q, 1, none⟩ (.int .i64 o2)).setCell ⟨q, 2, none⟩ (.int .i64 o3)).setCell ⟨q, 3, none⟩ (.int .i64 o4)).setCell ⟨q, 4, none⟩ (.int .i64 o5)).setCell ⟨q, 5, none⟩ (.int .i64 o6)).setCell ⟨q, 6, none⟩ (.bool o7)).setCell ⟨q, 7, none⟩ (.bool o8)).setCell ⟨q, 8, none⟩ (.bool o9)).setCell ⟨q, 9, none⟩ (.bool o10)) := ⟨_, rfl⟩
                  rw [← hw7] at hK hW hR ⊢
                  clear lr hw7 HK6 HW6 HR6
                  refine (cellref_Check.calls k _ _ _ _ _ _ _ _ _ _ _ _ (gl_below hGl hW) HE.out).mono ?_
                  rintro e w8 ⟨rfl, hb⟩
                  have HW8 := Aside0.mk (below_step hW hb)
                  have HR8 := Aside0.mk (blk_below hR hb)
                  have HK8 := Aside0.mk (blk_below hK hb)
                  clear hb hW hR hK HE
                  by_cases y0 : e0 = 0
                  · subst y0
                    have hr := HQ.out rfl
                    clear HQ HU
                    simp only [Prod.mk.injEq] at hr
                    obtain ⟨rfl, rfl, rfl, rfl, rfl, rfl, rfl, rfl, rfl, rfl, rfl⟩ := hr
                    have kc0 := (blk_cell HK8.out 0).trans rfl
                    have kf0 := blk_frozen HK8.out 0
                    have kc1 := (blk_cell HK8.out 1).trans rfl
                    have kf1 := blk_frozen HK8.out 1
                    have kc2 := (blk_cell HK8.out 2).trans rfl
                    have kf2 := blk_frozen HK8.out 2
                    have kc3 := (blk_cell HK8.out 3).trans rfl
                    have kf3 := blk_frozen HK8.out 3
                    have kc4 := (blk_cell HK8.out 4).trans rfl
                    have kf4 := blk_frozen HK8.out 4
                    have kc5 := (blk_cell HK8.out 5).trans rfl
                    have kf5 := blk_frozen HK8.out 5
                    have kc6 := (blk_cell HK8.out 6).trans rfl
                    have kf6 := blk_frozen HK8.out 6
                    have kc7 := (blk_cell HK8.out 7).trans rfl
                    have kf7 := blk_frozen HK8.out 7
                    have kc8 := (blk_cell HK8.out 8).trans rfl
                    have kf8 := blk_frozen HK8.out 8
                    have kc9 := (blk_cell HK8.out 9).trans rfl
                    have kf9 := blk_frozen HK8.out 9
                    have rc0 := (blk_cell HR8.out 0).trans rfl
                    have rf0 := blk_frozen HR8.out 0
                    have rc1 := (blk_cell HR8.out 1).trans rfl
                    have rf1 := blk_frozen HR8.out 1
                    have rc2 := (blk_cell HR8.out 2).trans rfl
                    have rf2 := blk_frozen HR8.out 2
                    have rc3 := (blk_cell HR8.out 3).trans rfl
                    have rf3 := blk_frozen HR8.out 3
                    have rc4 := (blk_cell HR8.out 4).trans rfl
                    have rf4 := blk_frozen HR8.out 4
                    have rc5 := (blk_cell HR8.out 5).trans rfl
                    have rf5 := blk_frozen HR8.out 5
                    have rc6 := (blk_cell HR8.out 6).trans rfl
                    have rf6 := blk_frozen HR8.out 6
                    have rc7 := (blk_cell HR8.out 7).trans rfl
                    have rf7 := blk_frozen HR8.out 7
                    have rc8 := (blk_cell HR8.out 8).trans rfl
                    have rf8 := blk_frozen HR8.out 8
                    have rc9 := (blk_cell HR8.out 9).trans rfl
                    have rf9 := blk_frozen HR8.out 9
                    go_wp2
                    clear kc0 kf0 kc1 kf1 kc2 kf2 kc3 kf3 kc4 kf4 kc5 kf5 kc6 kf6 kc7 kf7 kc8 kf8 kc9 kf9
                    clear rc0 rf0 rc1 rf1 rc2 rf2 rc3 rf3 rc4 rf4 rc5 rf5 rc6 rf6 rc7 rf7 rc8 rf8 rc9 rf9
                    obtain ⟨hf, hw⟩ := store10 (b := w.heap.size) HR8.out HW8.out (Nat.le_refl _) (.string r1) (.int .i64 r2) (.int .i64 r3) (.int .i64 r4) (.int .i64 r5) (.int .i64 r6) (.bool r7) (.bool r8) (.bool r9) (.bool r10)
                    obtain ⟨wz, hwz⟩ : ∃ wz, wz = ((((((((((w8.setCell ⟨w.heap.size, 0, none⟩ (.string r1)).setCell ⟨w.heap.size, 1, none⟩ (.int .i64 r2)).setCell ⟨w.heap.size, 2, none⟩ (.int .i64 r3)).setCell ⟨w.heap.size, 3, none⟩ (.int .i64 r4)).setCell ⟨w.heap.size, 4, none⟩ (.int .i64 r5)).setCell ⟨w.heap.size, 5, none⟩ (.int .i64 r6)).setCell ⟨w.heap.size, 6, none⟩ (.bool r7)).setCell ⟨w.heap.size, 7, none⟩ (.bool r8)).setCell ⟨w.heap.size, 8, none⟩ (.bool r9)).setCell ⟨w.heap.size, 9, none⟩ (.bool r10)) := ⟨_, rfl⟩
                    rw [← hwz] at hf hw ⊢
                    clear hwz
                    refine bodyPost_ret (results_ct rfl _ _ (w.heap.size) 44 #[.string r1, .int .i64 r2, .int .i64 r3, .int .i64 r4, .int .i64 r5, .int .i64 r6, .bool r7, .bool r8, .bool r9, .bool r10] (0, 0) _ rfl hf Tryd.underlying44 rfl (by kernel_rfl)) rfl ?_
                    exact ⟨rfl, hw⟩
                  · have hr := HU.out y0
                    clear HQ HU
                    simp only [noRef, Prod.mk.injEq] at hr
                    obtain ⟨rfl, rfl, rfl, rfl, rfl, rfl, rfl, rfl, rfl, rfl, rfl⟩ := hr
                    have z1 : (r11 != 0) = true := by simp [y0]
                    have z2 : (r11 == 0) = false := by simp [y0]
                    have z4 : decide (r11 = 0) = false := by simp [y0]
                    have rc0 := (blk_cell HR8.out 0).trans rfl
                    have rf0 := blk_frozen HR8.out 0
                    have rc1 := (blk_cell HR8.out 1).trans rfl
                    have rf1 := blk_frozen HR8.out 1
                    have rc2 := (blk_cell HR8.out 2).trans rfl
                    have rf2 := blk_frozen HR8.out 2
                    have rc3 := (blk_cell HR8.out 3).trans rfl
                    have rf3 := blk_frozen HR8.out 3
                    have rc4 := (blk_cell HR8.out 4).trans rfl
                    have rf4 := blk_frozen HR8.out 4
                    have rc5 := (blk_cell HR8.out 5).trans rfl
                    have rf5 := blk_frozen HR8.out 5
                    have rc6 := (blk_cell HR8.out 6).trans rfl
                    have rf6 := blk_frozen HR8.out 6
                    have rc7 := (blk_cell HR8.out 7).trans rfl
                    have rf7 := blk_frozen HR8.out 7
                    have rc8 := (blk_cell HR8.out 8).trans rfl
                    have rf8 := blk_frozen HR8.out 8
                    have rc9 := (blk_cell HR8.out 9).trans rfl
                    have rf9 := blk_frozen HR8.out 9
                    go_wp2
                    clear rc0 rf0 rc1 rf1 rc2 rf2 rc3 rf3 rc4 rf4 rc5 rf5 rc6 rf6 rc7 rf7 rc8 rf8 rc9 rf9
                    obtain ⟨hf, hw⟩ := store10 (b := w.heap.size) HR8.out HW8.out (Nat.le_refl _) (.string ⟨#[]⟩) (.int .i64 0) (.int .i64 0) (.int .i64 0) (.int .i64 0) (.int .i64 0) (.bool false) (.bool false) (.bool false) (.bool false)
                    obtain ⟨wz, hwz⟩ : ∃ wz, wz = ((((((((((w8.setCell ⟨w.heap.size, 0, none⟩ (.string ⟨#[]⟩)).setCell ⟨w.heap.size, 1, none⟩ (.int .i64 0)).setCell ⟨w.heap.size, 2, none⟩ (.int .i64 0)).setCell ⟨w.heap.size, 3, none⟩ (.int .i64 0)).setCell ⟨w.heap.size, 4, none⟩ (.int .i64 0)).setCell ⟨w.heap.size, 5, none⟩ (.int .i64 0)).setCell ⟨w.heap.size, 6, none⟩ (.bool false)).setCell ⟨w.heap.size, 7, none⟩ (.bool false)).setCell ⟨w.heap.size, 8, none⟩ (.bool false)).setCell ⟨w.heap.size, 9, none⟩ (.bool false)) := ⟨_, rfl⟩
                    rw [← hwz] at hf hw ⊢
                    clear hwz
                    refine bodyPost_ret (results_ct rfl _ _ (w.heap.size) 44 #[.string ⟨#[]⟩, .int .i64 0, .int .i64 0, .int .i64 0, .int .i64 0, .int .i64 0, .bool false, .bool false, .bool false, .bool false] (0, 0) _ rfl hf Tryd.underlying44 rfl (by kernel_rfl)) rfl ?_
                    exact ⟨rfl, hw⟩
                | true =>
                  obtain ⟨u1, u2, u3, hu, hu3, hu0⟩ := hv0.1 rfl
                  have HU := Aside0.mk hu
                  have HU3 := Aside0.mk hu3
                  have HU0 := Aside0.mk hu0
                  clear hv0 hu hu3 hu0
                  go_upto_region 20 with (fail)
                  go_cut [9] (fun v9 wx => v9 = .bool true ∧ Aside0 (wx.heap[q]? = some (.cells #[.string title, .int .i64 1, .int .i64 v1, .int .i64 v2, .int .i64 0, .int .i64 0, .bool aR, .bool aC, .bool bR, .bool bC] 44 (0, 0))) ∧ Aside0 (wx.heap[w2.heap.size]? = some (.cells #[.string aL, .string aN, .bool aC, .bool aR] 107 (0, 0))) ∧ Aside0 (wx.heap[w2.heap.size + 1]? = some (.cells #[.string bL, .string bN, .bool bC, .bool bR] 107 (0, 0))) ∧ Aside0 (wx.heap[w.heap.size]? = some (.cells #[.string ⟨#[]⟩, .int .i64 0, .int .i64 0, .int .i64 0, .int .i64 0, .int .i64 0, .bool false, .bool false, .bool false, .bool false] 44 (0, 0))) ∧ Aside0 (Below w.heap.size w wx))
                  case first =>
                    have bc0 := (blk_cell HB5.out 0).trans rfl
                    have bc1 := (blk_cell HB5.out 1).trans rfl
                    have bc2 := (blk_cell HB5.out 2).trans rfl
                    have bc3 := (blk_cell HB5.out 3).trans rfl
                    have kc0 := (blk_cell HK5.out 0).trans rfl
                    have kf0 := blk_frozen HK5.out 0
                    have kc1 := (blk_cell HK5.out 1).trans rfl
                    have kf1 := blk_frozen HK5.out 1
                    have kc2 := (blk_cell HK5.out 2).trans rfl
                    have kf2 := blk_frozen HK5.out 2
                    have kc3 := (blk_cell HK5.out 3).trans rfl
                    have kf3 := blk_frozen HK5.out 3
                    have kc4 := (blk_cell HK5.out 4).trans rfl
                    have kf4 := blk_frozen HK5.out 4
                    have kc5 := (blk_cell HK5.out 5).trans rfl
                    have kf5 := blk_frozen HK5.out 5
                    have kc6 := (blk_cell HK5.out 6).trans rfl
                    have kf6 := blk_frozen HK5.out 6
                    have kc7 := (blk_cell HK5.out 7).trans rfl
                    have kf7 := blk_frozen HK5.out 7
                    have kc8 := (blk_cell HK5.out 8).trans rfl
                    have kf8 := blk_frozen HK5.out 8
                    have kc9 := (blk_cell HK5.out 9).trans rfl
                    have kf9 := blk_frozen HK5.out 9
                    go_region
                    go_wp2
                    clear kc0 kf0 kc1 kf1 kc2 kf2 kc3 kf3 kc4 kf4 kc5 kf5 kc6 kf6 kc7 kf7 kc8 kf8 kc9 kf9
                    clear bc0 bc1 bc2 bc3
                    have la := HLA.out
                    have lb := HLB.out
                    have lr := HLR.out
                    go_meet
                    case rel => exact ⟨rfl, ⟨blk_drew (blk_put (cs' := #[.string title, .int .i64 1, .int .i64 v1, .int .i64 v2, .int .i64 0, .int .i64 0, .bool aR, .bool aC, .bool bR, .bool bC]) (blk_put (cs' := #[.string title, .int .i64 1, .int .i64 v1, .int .i64 v2, .int .i64 0, .int .i64 0, .bool aR, .bool aC, .bool bR, .bool false]) (blk_put (cs' := #[.string title, .int .i64 1, .int .i64 v1, .int .i64 v2, .int .i64 0, .int .i64 0, .bool aR, .bool aC, .bool false, .bool false]) HK5.out 1 (.int .i64 1) rfl) 8 (.bool bR) rfl) 9 (.bool bC) rfl)⟩, ⟨blk_drew (blk_far (p := ⟨q, 9, none⟩) (blk_far (p := ⟨q, 8, none⟩) (blk_far (p := ⟨q, 1, none⟩) HA5.out (by show w2.heap.size ≠ q; omega) (.int .i64 1)) (by show w2.heap.size ≠ q; omega) (.bool bR)) (by show w2.heap.size ≠ q; omega) (.bool bC))⟩, ⟨blk_drew (blk_far (p := ⟨q, 9, none⟩) (blk_far (p := ⟨q, 8, none⟩) (blk_far (p := ⟨q, 1, none⟩) HB5.out (by show w2.heap.size + 1 ≠ q; omega) (.int .i64 1)) (by show w2.heap.size + 1 ≠ q; omega) (.bool bR)) (by show w2.heap.size + 1 ≠ q; omega) (.bool bC))⟩, ⟨blk_drew (blk_far (p := ⟨q, 9, none⟩) (blk_far (p := ⟨q, 8, none⟩) (blk_far (p := ⟨q, 1, none⟩) HR5.out (by show w.heap.size ≠ q; omega) (.int .i64 1)) (by show w.heap.size ≠ q; omega) (.bool bR)) (by show w.heap.size ≠ q; omega) (.bool bC))⟩, ⟨below_drew1 (below_set (j := 9) (v := (.bool bC)) (below_set (j := 8) (v := (.bool bR)) (below_set (j := 1) (v := (.int .i64 1)) HW5.out (g := q) (by omega)) (g := q) (by omega)) (g := q) (by omega))⟩⟩
                  case rest =>
                    clear HK5 HA5 HB5 HR5 HW5
                    obtain ⟨rfl, HK6, HA6, HB6, HR6, HW6⟩ := hcut
                    have bc0 := (blk_cell HB6.out 0).trans rfl
                    have bc1 := (blk_cell HB6.out 1).trans rfl
                    have bc2 := (blk_cell HB6.out 2).trans rfl
                    have bc3 := (blk_cell HB6.out 3).trans rfl
                    go_wp2_with fail
                    clear bc0 bc1 bc2 bc3
                    refine (cellref_corner_values.calls k _ _ _ _ _ _ _ _ (gl_below hGl HW6.out) HU.out).mono ?_
                    rintro e w7 ⟨rfl, hb⟩
                    have HW7 := Aside0.mk (below_step HW6.out hb)
                    have HR7 := Aside0.mk (blk_below HR6.out hb)
                    have HA7 := Aside0.mk (blk_below HA6.out hb)
                    have HB7 := Aside0.mk (blk_below HB6.out hb)
                    have HK7 := Aside0.mk (blk_below HK6.out hb)
                    clear hb HU HW6 HR6 HA6 HB6 HK6
                    have kc0 := (blk_cell HK7.out 0).trans rfl
                    have kf0 := blk_frozen HK7.out 0
                    have kc1 := (blk_cell HK7.out 1).trans rfl
                    have kf1 := blk_frozen HK7.out 1
                    have kc2 := (blk_cell HK7.out 2).trans rfl
                    have kf2 := blk_frozen HK7.out 2
                    have kc3 := (blk_cell HK7.out 3).trans rfl
                    have kf3 := blk_frozen HK7.out 3
                    have kc4 := (blk_cell HK7.out 4).trans rfl
                    have kf4 := blk_frozen HK7.out 4
                    have kc5 := (blk_cell HK7.out 5).trans rfl
                    have kf5 := blk_frozen HK7.out 5
                    have kc6 := (blk_cell HK7.out 6).trans rfl
                    have kf6 := blk_frozen HK7.out 6
                    have kc7 := (blk_cell HK7.out 7).trans rfl
                    have kf7 := blk_frozen HK7.out 7
                    have kc8 := (blk_cell HK7.out 8).trans rfl
                    have kf8 := blk_frozen HK7.out 8
                    have kc9 := (blk_cell HK7.out 9).trans rfl
                    have kf9 := blk_frozen HK7.out 9
                    by_cases y3 : u3 = 0
                    · subst y3
                      have hu0 := HU0.out rfl
                      clear HU0 HU3
                      go_upto_if 134 with (fail)
                      clear kc0 kf0 kc1 kf1 kc2 kf2 kc3 kf3 kc4 kf4 kc5 kf5 kc6 kf6 kc7 kf7 kc8 kf8 kc9 kf9
                      have la := HLA.out
                      have lb := HLB.out
                      have lr := HLR.out
                      have hK := (blk_put (cs' := #[.string title, .int .i64 1, .int .i64 v1, .int .i64 v2, .int .i64 u1, .int .i64 u2, .bool aR, .bool aC, .bool bR, .bool bC]) (blk_put (cs' := #[.string title, .int .i64 1, .int .i64 v1, .int .i64 v2, .int .i64 u1, .int .i64 0, .bool aR, .bool aC, .bool bR, .bool bC]) HK7.out 4 (.int .i64 u1) rfl) 5 (.int .i64 u2) rfl)
                      have hR := (blk_far (p := ⟨q, 5, none⟩) (blk_far (p := ⟨q, 4, none⟩) HR7.out (by show w.heap.size ≠ q; omega) (.int .i64 u1)) (by show w.heap.size ≠ q; omega) (.int .i64 u2))
                      have hA := (blk_far (p := ⟨q, 5, none⟩) (blk_far (p := ⟨q, 4, none⟩) HA7.out (by show w2.heap.size ≠ q; omega) (.int .i64 u1)) (by show w2.heap.size ≠ q; omega) (.int .i64 u2))
                      have hB := (blk_far (p := ⟨q, 5, none⟩) (blk_far (p := ⟨q, 4, none⟩) HB7.out (by show w2.heap.size + 1 ≠ q; omega) (.int .i64 u1)) (by show w2.heap.size + 1 ≠ q; omega) (.int .i64 u2))
                      have hW := (below_set (j := 5) (v := (.int .i64 u2)) (below_set (j := 4) (v := (.int .i64 u1)) HW7.out (g := q) (by omega)) (g := q) (by omega))
                      obtain ⟨w8, hw8⟩ : ∃ w8, w8 = ((w7.setCell ⟨q, 4, none⟩ (.int .i64 u1)).setCell ⟨q, 5, none⟩ (.int .i64 u2)) := ⟨_, rfl⟩
                      rw [← hw8] at hK hR hA hB hW ⊢
                      have HW8 := Aside0.mk hW
                      have HR8 := Aside0.mk hR
                      have HA8 := Aside0.mk hA
                      have HB8 := Aside0.mk hB
                      have HK8 := Aside0.mk hK
                      clear hw8 hK hR hA hB hW HW7 HR7 HA7 HB7 HK7
                      clear la lb lr
                      go_cut [9, 14] (fun v9 v14 wx => ∃ x : Bool, v9 = .bool true ∧ v14 = .bool x ∧ Aside0 (wx.heap[q]? = some (.cells #[.string title, .int .i64 (kindOf (noL aL) (noL aN)), .int .i64 v1, .int .i64 v2, .int .i64 u1, .int .i64 u2, .bool aR, .bool aC, .bool bR, .bool bC] 44 (0, 0))) ∧ Aside0 (wx.heap[w2.heap.size]? = some (.cells #[.string aL, .string aN, .bool aC, .bool aR] 107 (0, 0))) ∧ Aside0 (wx.heap[w2.heap.size + 1]? = some (.cells #[.string bL, .string bN, .bool bC, .bool bR] 107 (0, 0))) ∧ Aside0 (wx.heap[w.heap.size]? = some (.cells #[.string ⟨#[]⟩, .int .i64 0, .int .i64 0, .int .i64 0, .int .i64 0, .int .i64 0, .bool false, .bool false, .bool false, .bool false] 44 (0, 0))) ∧ Aside0 (Below w.heap.size w wx))
                      case first =>
                        have la := HLA.out
                        have lb := HLB.out
                        have lr := HLR.out
                        have ac1 := (blk_cell HA8.out 1).trans rfl
                        have kc0 := (blk_cell HK8.out 0).trans rfl
                        have kf0 := blk_frozen HK8.out 0
                        have kc1 := (blk_cell HK8.out 1).trans rfl
                        have kf1 := blk_frozen HK8.out 1
                        have kc2 := (blk_cell HK8.out 2).trans rfl
                        have kf2 := blk_frozen HK8.out 2
                        have kc3 := (blk_cell HK8.out 3).trans rfl
                        have kf3 := blk_frozen HK8.out 3
                        have kc4 := (blk_cell HK8.out 4).trans rfl
                        have kf4 := blk_frozen HK8.out 4
                        have kc5 := (blk_cell HK8.out 5).trans rfl
                        have kf5 := blk_frozen HK8.out 5
                        have kc6 := (blk_cell HK8.out 6).trans rfl
                        have kf6 := blk_frozen HK8.out 6
                        have kc7 := (blk_cell HK8.out 7).trans rfl
                        have kf7 := blk_frozen HK8.out 7
                        have kc8 := (blk_cell HK8.out 8).trans rfl
                        have kf8 := blk_frozen HK8.out 8
                        have kc9 := (blk_cell HK8.out 9).trans rfl
                        have kf9 := blk_frozen HK8.out 9
                        cases hxa : noL aL with
                        | true =>
                          have xa1 : aL.toList.isEmpty = true := hxa
                          have xa2 : (!aL.toList.isEmpty) = false := by rw [xa1]; rfl
                          have xa3 : (aL.toList == []) = true := by rw [← xa1]; cases aL.toList <;> rfl
                          have xa4 : (aL.toList != []) = false := by unfold bne; rw [xa3]; rfl
                          cases hxn : noL aN with
                          | true =>
                            have xn1 : aN.toList.isEmpty = true := hxn
                            have xn2 : (!aN.toList.isEmpty) = false := by rw [xn1]; rfl
                            have xn3 : (aN.toList == []) = true := by rw [← xn1]; cases aN.toList <;> rfl
                            have xn4 : (aN.toList != []) = false := by unfold bne; rw [xn3]; rfl
                            go_wp2
                            go_meet
                            case rel => exact ⟨_, rfl, rfl, ⟨by simpa [hxa, hxn, kindOf] using (blk_put (cs' := #[.string title, .int .i64 3, .int .i64 v1, .int .i64 v2, .int .i64 u1, .int .i64 u2, .bool aR, .bool aC, .bool bR, .bool bC]) (blk_put (cs' := #[.string title, .int .i64 2, .int .i64 v1, .int .i64 v2, .int .i64 u1, .int .i64 u2, .bool aR, .bool aC, .bool bR, .bool bC]) HK8.out 1 (.int .i64 2) rfl) 1 (.int .i64 3) rfl)⟩, ⟨(blk_far (p := ⟨q, 1, none⟩) (blk_far (p := ⟨q, 1, none⟩) HA8.out (by show w2.heap.size ≠ q; omega) (.int .i64 2)) (by show w2.heap.size ≠ q; omega) (.int .i64 3))⟩, ⟨(blk_far (p := ⟨q, 1, none⟩) (blk_far (p := ⟨q, 1, none⟩) HB8.out (by show w2.heap.size + 1 ≠ q; omega) (.int .i64 2)) (by show w2.heap.size + 1 ≠ q; omega) (.int .i64 3))⟩, ⟨(blk_far (p := ⟨q, 1, none⟩) (blk_far (p := ⟨q, 1, none⟩) HR8.out (by show w.heap.size ≠ q; omega) (.int .i64 2)) (by show w.heap.size ≠ q; omega) (.int .i64 3))⟩, ⟨(below_set (j := 1) (v := (.int .i64 3)) (below_set (j := 1) (v := (.int .i64 2)) HW8.out (g := q) (by omega)) (g := q) (by omega))⟩⟩
                          | false =>
                            have xn1 : aN.toList.isEmpty = false := hxn
                            have xn2 : (!aN.toList.isEmpty) = true := by rw [xn1]; rfl
                            have xn3 : (aN.toList == []) = false := by rw [← xn1]; cases aN.toList <;> rfl
                            have xn4 : (aN.toList != []) = true := by unfold bne; rw [xn3]; rfl
                            go_wp2
                            go_meet
                            case rel => exact ⟨_, rfl, rfl, ⟨by simpa [hxa, hxn, kindOf] using (blk_put (cs' := #[.string title, .int .i64 2, .int .i64 v1, .int .i64 v2, .int .i64 u1, .int .i64 u2, .bool aR, .bool aC, .bool bR, .bool bC]) HK8.out 1 (.int .i64 2) rfl)⟩, ⟨(blk_far (p := ⟨q, 1, none⟩) HA8.out (by show w2.heap.size ≠ q; omega) (.int .i64 2))⟩, ⟨(blk_far (p := ⟨q, 1, none⟩) HB8.out (by show w2.heap.size + 1 ≠ q; omega) (.int .i64 2))⟩, ⟨(blk_far (p := ⟨q, 1, none⟩) HR8.out (by show w.heap.size ≠ q; omega) (.int .i64 2))⟩, ⟨(below_set (j := 1) (v := (.int .i64 2)) HW8.out (g := q) (by omega))⟩⟩
                        | false =>
                          have xa1 : aL.toList.isEmpty = false := hxa
                          have xa2 : (!aL.toList.isEmpty) = true := by rw [xa1]; rfl
                          have xa3 : (aL.toList == []) = false := by rw [← xa1]; cases aL.toList <;> rfl
                          have xa4 : (aL.toList != []) = true := by unfold bne; rw [xa3]; rfl
                          cases hxn : noL aN with
                          | true =>
                            have xn1 : aN.toList.isEmpty = true := hxn
                            have xn2 : (!aN.toList.isEmpty) = false := by rw [xn1]; rfl
                            have xn3 : (aN.toList == []) = true := by rw [← xn1]; cases aN.toList <;> rfl
                            have xn4 : (aN.toList != []) = false := by unfold bne; rw [xn3]; rfl
                            go_wp2
                            go_meet
                            case rel => exact ⟨_, rfl, rfl, ⟨by simpa [hxa, hxn, kindOf] using (blk_put (cs' := #[.string title, .int .i64 3, .int .i64 v1, .int .i64 v2, .int .i64 u1, .int .i64 u2, .bool aR, .bool aC, .bool bR, .bool bC]) (blk_put (cs' := #[.string title, .int .i64 2, .int .i64 v1, .int .i64 v2, .int .i64 u1, .int .i64 u2, .bool aR, .bool aC, .bool bR, .bool bC]) HK8.out 1 (.int .i64 2) rfl) 1 (.int .i64 3) rfl)⟩, ⟨(blk_far (p := ⟨q, 1, none⟩) (blk_far (p := ⟨q, 1, none⟩) HA8.out (by show w2.heap.size ≠ q; omega) (.int .i64 2)) (by show w2.heap.size ≠ q; omega) (.int .i64 3))⟩, ⟨(blk_far (p := ⟨q, 1, none⟩) (blk_far (p := ⟨q, 1, none⟩) HB8.out (by show w2.heap.size + 1 ≠ q; omega) (.int .i64 2)) (by show w2.heap.size + 1 ≠ q; omega) (.int .i64 3))⟩, ⟨(blk_far (p := ⟨q, 1, none⟩) (blk_far (p := ⟨q, 1, none⟩) HR8.out (by show w.heap.size ≠ q; omega) (.int .i64 2)) (by show w.heap.size ≠ q; omega) (.int .i64 3))⟩, ⟨(below_set (j := 1) (v := (.int .i64 3)) (below_set (j := 1) (v := (.int .i64 2)) HW8.out (g := q) (by omega)) (g := q) (by omega))⟩⟩
                          | false =>
                            have xn1 : aN.toList.isEmpty = false := hxn
                            have xn2 : (!aN.toList.isEmpty) = true := by rw [xn1]; rfl
                            have xn3 : (aN.toList == []) = false := by rw [← xn1]; cases aN.toList <;> rfl
                            have xn4 : (aN.toList != []) = true := by unfold bne; rw [xn3]; rfl
                            go_wp2
                            go_meet
                            case rel => exact ⟨_, rfl, rfl, ⟨by simpa [hxa, hxn, kindOf] using HK8.out⟩, HA8, HB8, HR8, HW8⟩
                      case rest =>
                        clear HK8 HA8 HB8 HR8 HW8
                        obtain ⟨xd, rfl, rfl, HK9, HA9, HB9, HR9, HW9⟩ := hcut
                        obtain ⟨o1, o2, o3, o4, o5, o6, o7, o8, o9, o10, e0, ho, he, hr0, hr1⟩ := refEnd_rel (hu0)
                        have HO := Aside0.mk ho
                        have HE := Aside0.mk he
                        have HQ := Aside0.mk hr0
                        have HU := Aside0.mk hr1
                        clear ho he hr0 hr1
                        have kc0 := (blk_cell HK9.out 0).trans rfl
                        have kf0 := blk_frozen HK9.out 0
                        have kc1 := (blk_cell HK9.out 1).trans rfl
                        have kf1 := blk_frozen HK9.out 1
                        have kc2 := (blk_cell HK9.out 2).trans rfl
                        have kf2 := blk_frozen HK9.out 2
                        have kc3 := (blk_cell HK9.out 3).trans rfl
                        have kf3 := blk_frozen HK9.out 3
                        have kc4 := (blk_cell HK9.out 4).trans rfl
                        have kf4 := blk_frozen HK9.out 4
                        have kc5 := (blk_cell HK9.out 5).trans rfl
                        have kf5 := blk_frozen HK9.out 5
                        have kc6 := (blk_cell HK9.out 6).trans rfl
                        have kf6 := blk_frozen HK9.out 6
                        have kc7 := (blk_cell HK9.out 7).trans rfl
                        have kf7 := blk_frozen HK9.out 7
                        have kc8 := (blk_cell HK9.out 8).trans rfl
                        have kf8 := blk_frozen HK9.out 8
                        have kc9 := (blk_cell HK9.out 9).trans rfl
                        have kf9 := blk_frozen HK9.out 9
                        go_wp2_with fail
                        clear kc0 kf0 kc1 kf1 kc2 kf2 kc3 kf3 kc4 kf4 kc5 kf5 kc6 kf6 kc7 kf7 kc8 kf8 kc9 kf9
                        refine (cellref_ordered.calls _ _ _ _ _ _ _ _ _ _ _ _ _ _ _ _ _ _ _ _ _ (gl_below hGl HW9.out) HO.out).mono ?_
                        rintro e w10 ⟨rfl, hb⟩
                        have HW10 := Aside0.mk (below_step HW9.out hb)
                        have HR10 := Aside0.mk (blk_below HR9.out hb)
                        have HK10 := Aside0.mk (blk_below HK9.out hb)
                        clear hb HO HW9 HR9 HA9 HB9 HK9
                        have kc0 := (blk_cell HK10.out 0).trans rfl
                        have kf0 := blk_frozen HK10.out 0
                        have kc1 := (blk_cell HK10.out 1).trans rfl
                        have kf1 := blk_frozen HK10.out 1
                        have kc2 := (blk_cell HK10.out 2).trans rfl
                        have kf2 := blk_frozen HK10.out 2
                        have kc3 := (blk_cell HK10.out 3).trans rfl
                        have kf3 := blk_frozen HK10.out 3
                        have kc4 := (blk_cell HK10.out 4).trans rfl
                        have kf4 := blk_frozen HK10.out 4
                        have kc5 := (blk_cell HK10.out 5).trans rfl
                        have kf5 := blk_frozen HK10.out 5
                        have kc6 := (blk_cell HK10.out 6).trans rfl
                        have kf6 := blk_frozen HK10.out 6
                        have kc7 := (blk_cell HK10.out 7).trans rfl
                        have kf7 := blk_frozen HK10.out 7
                        have kc8 := (blk_cell HK10.out 8).trans rfl
                        have kf8 := blk_frozen HK10.out 8
                        have kc9 := (blk_cell HK10.out 9).trans rfl
                        have kf9 := blk_frozen HK10.out 9
                        go_wp2_with fail
                        clear kc0 kf0 kc1 kf1 kc2 kf2 kc3 kf3 kc4 kf4 kc5 kf5 kc6 kf6 kc7 kf7 kc8 kf8 kc9 kf9
                        have lr := HLR.out
                        obtain ⟨hK, hW⟩ := store10 (b := q) HK10.out HW10.out (by omega) (.string o1) (.int .i64 o2) (.int .i64 o3) (.int .i64 o4) (.int .i64 o5) (.int .i64 o6) (.bool o7) (.bool o8) (.bool o9) (.bool o10)
                        have hR := far10 (b := q) HR10.out (by omega) (.string o1) (.int .i64 o2) (.int .i64 o3) (.int .i64 o4) (.int .i64 o5) (.int .i64 o6) (.bool o7) (.bool o8) (.bool o9) (.bool o10)
                        obtain ⟨w11, hw11⟩ : ∃ w11, w11 = ((((((((((w10.setCell ⟨q, 0, none⟩ (.string o1)).setCell ⟨q, 1, none⟩ (.int .i64 o2)).setCell ⟨q, 2, none⟩ (.int .i64 o3)).setCell ⟨q, 3, none⟩ (.int .i64 o4)).setCell ⟨q, 4, none⟩ (.int .i64 o5)).setCell ⟨q, 5, none⟩ (.int .i64 o6)).setCell ⟨q, 6, none⟩ (.bool o7)).setCell ⟨q, 7, none⟩ (.bool o8)).setCell ⟨q, 8, none⟩ (.bool o9)).setCell ⟨q, 9, none⟩ (.bool o10)) := ⟨_, rfl⟩
                        rw [← hw11] at hK hW hR ⊢
                        clear lr hw11 HK10 HW10 HR10
                        refine (cellref_Check.calls k _ _ _ _ _ _ _ _ _ _ _ _ (gl_below hGl hW) HE.out).mono ?_
                        rintro e w12 ⟨rfl, hb⟩
                        have HW12 := Aside0.mk (below_step hW hb)
                        have HR12 := Aside0.mk (blk_below hR hb)
                        have HK12 := Aside0.mk (blk_below hK hb)
                        clear hb hW hR hK HE
                        by_cases y0 : e0 = 0
                        · subst y0
                          have hr := HQ.out rfl
                          clear HQ HU
                          simp only [Prod.mk.injEq] at hr
                          obtain ⟨rfl, rfl, rfl, rfl, rfl, rfl, rfl, rfl, rfl, rfl, rfl⟩ := hr
                          have kc0 := (blk_cell HK12.out 0).trans rfl
                          have kf0 := blk_frozen HK12.out 0
                          have kc1 := (blk_cell HK12.out 1).trans rfl
                          have kf1 := blk_frozen HK12.out 1
                          have kc2 := (blk_cell HK12.out 2).trans rfl
                          have kf2 := blk_frozen HK12.out 2
                          have kc3 := (blk_cell HK12.out 3).trans rfl
                          have kf3 := blk_frozen HK12.out 3
                          have kc4 := (blk_cell HK12.out 4).trans rfl
                          have kf4 := blk_frozen HK12.out 4
                          have kc5 := (blk_cell HK12.out 5).trans rfl
                          have kf5 := blk_frozen HK12.out 5
                          have kc6 := (blk_cell HK12.out 6).trans rfl
                          have kf6 := blk_frozen HK12.out 6
                          have kc7 := (blk_cell HK12.out 7).trans rfl
                          have kf7 := blk_frozen HK12.out 7
                          have kc8 := (blk_cell HK12.out 8).trans rfl
                          have kf8 := blk_frozen HK12.out 8
                          have kc9 := (blk_cell HK12.out 9).trans rfl
                          have kf9 := blk_frozen HK12.out 9
                          have rc0 := (blk_cell HR12.out 0).trans rfl
                          have rf0 := blk_frozen HR12.out 0
                          have rc1 := (blk_cell HR12.out 1).trans rfl
                          have rf1 := blk_frozen HR12.out 1
                          have rc2 := (blk_cell HR12.out 2).trans rfl
                          have rf2 := blk_frozen HR12.out 2
                          have rc3 := (blk_cell HR12.out 3).trans rfl
                          have rf3 := blk_frozen HR12.out 3
                          have rc4 := (blk_cell HR12.out 4).trans rfl
                          have rf4 := blk_frozen HR12.out 4
                          have rc5 := (blk_cell HR12.out 5).trans rfl
                          have rf5 := blk_frozen HR12.out 5
                          have rc6 := (blk_cell HR12.out 6).trans rfl
                          have rf6 := blk_frozen HR12.out 6
                          have rc7 := (blk_cell HR12.out 7).trans rfl
                          have rf7 := blk_frozen HR12.out 7
                          have rc8 := (blk_cell HR12.out 8).trans rfl
                          have rf8 := blk_frozen HR12.out 8
                          have rc9 := (blk_cell HR12.out 9).trans rfl
                          have rf9 := blk_frozen HR12.out 9
                          go_wp2
                          clear kc0 kf0 kc1 kf1 kc2 kf2 kc3 kf3 kc4 kf4 kc5 kf5 kc6 kf6 kc7 kf7 kc8 kf8 kc9 kf9
                          clear rc0 rf0 rc1 rf1 rc2 rf2 rc3 rf3 rc4 rf4 rc5 rf5 rc6 rf6 rc7 rf7 rc8 rf8 rc9 rf9
                          obtain ⟨hf, hw⟩ := store10 (b := w.heap.size) HR12.out HW12.out (Nat.le_refl _) (.string r1) (.int .i64 r2) (.int .i64 r3) (.int .i64 r4) (.int .i64 r5) (.int .i64 r6) (.bool r7) (.bool r8) (.bool r9) (.bool r10)
                          obtain ⟨wz, hwz⟩ : ∃ wz, wz = ((((((((((w12.setCell ⟨w.heap.size, 0, none⟩ (.string r1)).setCell ⟨w.heap.size, 1, none⟩ (.int .i64 r2)).setCell ⟨w.heap.size, 2, none⟩ (.int .i64 r3)).setCell ⟨w.heap.size, 3, none⟩ (.int .i64 r4)).setCell ⟨w.heap.size, 4, none⟩ (.int .i64 r5)).setCell ⟨w.heap.size, 5, none⟩ (.int .i64 r6)).setCell ⟨w.heap.size, 6, none⟩ (.bool r7)).setCell ⟨w.heap.size, 7, none⟩ (.bool r8)).setCell ⟨w.heap.size, 8, none⟩ (.bool r9)).setCell ⟨w.heap.size, 9, none⟩ (.bool r10)) := ⟨_, rfl⟩
                          rw [← hwz] at hf hw ⊢
                          clear hwz
                          refine bodyPost_ret (results_ct rfl _ _ (w.heap.size) 44 #[.string r1, .int .i64 r2, .int .i64 r3, .int .i64 r4, .int .i64 r5, .int .i64 r6, .bool r7, .bool r8, .bool r9, .bool r10] (0, 0) _ rfl hf Tryd.underlying44 rfl (by kernel_rfl)) rfl ?_
                          exact ⟨rfl, hw⟩
                        · have hr := HU.out y0
                          clear HQ HU
                          simp only [noRef, Prod.mk.injEq] at hr
                          obtain ⟨rfl, rfl, rfl, rfl, rfl, rfl, rfl, rfl, rfl, rfl, rfl⟩ := hr
                          have z1 : (r11 != 0) = true := by simp [y0]
                          have z2 : (r11 == 0) = false := by simp [y0]
                          have z4 : decide (r11 = 0) = false := by simp [y0]
                          have rc0 := (blk_cell HR12.out 0).trans rfl
                          have rf0 := blk_frozen HR12.out 0
                          have rc1 := (blk_cell HR12.out 1).trans rfl
                          have rf1 := blk_frozen HR12.out 1
                          have rc2 := (blk_cell HR12.out 2).trans rfl
                          have rf2 := blk_frozen HR12.out 2
                          have rc3 := (blk_cell HR12.out 3).trans rfl
                          have rf3 := blk_frozen HR12.out 3
                          have rc4 := (blk_cell HR12.out 4).trans rfl
                          have rf4 := blk_frozen HR12.out 4
                          have rc5 := (blk_cell HR12.out 5).trans rfl
                          have rf5 := blk_frozen HR12.out 5
                          have rc6 := (blk_cell HR12.out 6).trans rfl
                          have rf6 := blk_frozen HR12.out 6
                          have rc7 := (blk_cell HR12.out 7).trans rfl
                          have rf7 := blk_frozen HR12.out 7
                          have rc8 := (blk_cell HR12.out 8).trans rfl
                          have rf8 := blk_frozen HR12.out 8
                          have rc9 := (blk_cell HR12.out 9).trans rfl
                          have rf9 := blk_frozen HR12.out 9
                          go_wp2
                          clear rc0 rf0 rc1 rf1 rc2 rf2 rc3 rf3 rc4 rf4 rc5 rf5 rc6 rf6 rc7 rf7 rc8 rf8 rc9 rf9
                          obtain ⟨hf, hw⟩ := store10 (b := w.heap.size) HR12.out HW12.out (Nat.le_refl _) (.string ⟨#[]⟩) (.int .i64 0) (.int .i64 0) (.int .i64 0) (.int .i64 0) (.int .i64 0) (.bool false) (.bool false) (.bool false) (.bool false)
                          obtain ⟨wz, hwz⟩ : ∃ wz, wz = ((((((((((w12.setCell ⟨w.heap.size, 0, none⟩ (.string ⟨#[]⟩)).setCell ⟨w.heap.size, 1, none⟩ (.int .i64 0)).setCell ⟨w.heap.size, 2, none⟩ (.int .i64 0)).setCell ⟨w.heap.size, 3, none⟩ (.int .i64 0)).setCell ⟨w.heap.size, 4, none⟩ (.int .i64 0)).setCell ⟨w.heap.size, 5, none⟩ (.int .i64 0)).setCell ⟨w.heap.size, 6, none⟩ (.bool false)).setCell ⟨w.heap.size, 7, none⟩ (.bool false)).setCell ⟨w.heap.size, 8, none⟩ (.bool false)).setCell ⟨w.heap.size, 9, none⟩ (.bool false)) := ⟨_, rfl⟩
                          rw [← hwz] at hf hw ⊢
                          clear hwz
                          refine bodyPost_ret (results_ct rfl _ _ (w.heap.size) 44 #[.string ⟨#[]⟩, .int .i64 0, .int .i64 0, .int .i64 0, .int .i64 0, .int .i64 0, .bool false, .bool false, .bool false, .bool false] (0, 0) _ rfl hf Tryd.underlying44 rfl (by kernel_rfl)) rfl ?_
                          exact ⟨rfl, hw⟩
                    · have hr := HU3.out y3
                      clear HU0 HU3
                      simp only [noRef, Prod.mk.injEq] at hr
                      obtain ⟨rfl, rfl, rfl, rfl, rfl, rfl, rfl, rfl, rfl, rfl, rfl⟩ := hr
                      have z1 : (r11 != 0) = true := by simp [y3]
                      have z2 : (r11 == 0) = false := by simp [y3]
                      have z4 : decide (r11 = 0) = false := by simp [y3]
                      have la := HLA.out
                      have lb := HLB.out
                      have lr := HLR.out
                      have rc0 := (blk_cell HR7.out 0).trans rfl
                      have rf0 := blk_frozen HR7.out 0
                      have rc1 := (blk_cell HR7.out 1).trans rfl
                      have rf1 := blk_frozen HR7.out 1
                      have rc2 := (blk_cell HR7.out 2).trans rfl
                      have rf2 := blk_frozen HR7.out 2
                      have rc3 := (blk_cell HR7.out 3).trans rfl
                      have rf3 := blk_frozen HR7.out 3
                      have rc4 := (blk_cell HR7.out 4).trans rfl
                      have rf4 := blk_frozen HR7.out 4
                      have rc5 := (blk_cell HR7.out 5).trans rfl
                      have rf5 := blk_frozen HR7.out 5
                      have rc6 := (blk_cell HR7.out 6).trans rfl
                      have rf6 := blk_frozen HR7.out 6
                      have rc7 := (blk_cell HR7.out 7).trans rfl
                      have rf7 := blk_frozen HR7.out 7
                      have rc8 := (blk_cell HR7.out 8).trans rfl
                      have rf8 := blk_frozen HR7.out 8
                      have rc9 := (blk_cell HR7.out 9).trans rfl
                      have rf9 := blk_frozen HR7.out 9
                      go_wp2
                      clear kc0 kf0 kc1 kf1 kc2 kf2 kc3 kf3 kc4 kf4 kc5 kf5 kc6 kf6 kc7 kf7 kc8 kf8 kc9 kf9
                      clear rc0 rf0 rc1 rf1 rc2 rf2 rc3 rf3 rc4 rf4 rc5 rf5 rc6 rf6 rc7 rf7 rc8 rf8 rc9 rf9
                      obtain ⟨hf, hw⟩ := store10 (b := w.heap.size) (blk_far (p := ⟨q, 5, none⟩) (blk_far (p := ⟨q, 4, none⟩) HR7.out (by show w.heap.size ≠ q; omega) (.int .i64 u1)) (by show w.heap.size ≠ q; omega) (.int .i64 u2)) (below_set (j := 5) (v := (.int .i64 u2)) (below_set (j := 4) (v := (.int .i64 u1)) HW7.out (g := q) (by omega)) (g := q) (by omega)) (Nat.le_refl _) (.string ⟨#[]⟩) (.int .i64 0) (.int .i64 0) (.int .i64 0) (.int .i64 0) (.int .i64 0) (.bool false) (.bool false) (.bool false) (.bool false)
                      obtain ⟨wz, hwz⟩ : ∃ wz, wz = ((((((((((((w7.setCell ⟨q, 4, none⟩ (.int .i64 u1)).setCell ⟨q, 5, none⟩ (.int .i64 u2)).setCell ⟨w.heap.size, 0, none⟩ (.string ⟨#[]⟩)).setCell ⟨w.heap.size, 1, none⟩ (.int .i64 0)).setCell ⟨w.heap.size, 2, none⟩ (.int .i64 0)).setCell ⟨w.heap.size, 3, none⟩ (.int .i64 0)).setCell ⟨w.heap.size, 4, none⟩ (.int .i64 0)).setCell ⟨w.heap.size, 5, none⟩ (.int .i64 0)).setCell ⟨w.heap.size, 6, none⟩ (.bool false)).setCell ⟨w.heap.size, 7, none⟩ (.bool false)).setCell ⟨w.heap.size, 8, none⟩ (.bool false)).setCell ⟨w.heap.size, 9, none⟩ (.bool false)) := ⟨_, rfl⟩
                      rw [← hwz] at hf hw ⊢
                      clear hwz
                      refine bodyPost_ret (results_ct rfl _ _ (w.heap.size) 44 #[.string ⟨#[]⟩, .int .i64 0, .int .i64 0, .int .i64 0, .int .i64 0, .int .i64 0, .bool false, .bool false, .bool false, .bool false] (0, 0) _ rfl hf Tryd.underlying44 rfl (by kernel_rfl)) rfl ?_
                      exact ⟨rfl, hw⟩
              · have hr := HV3.out z3
                clear HV3 HV0
                simp only [noRef, Prod.mk.injEq] at hr
                obtain ⟨rfl, rfl, rfl, rfl, rfl, rfl, rfl, rfl, rfl, rfl, rfl⟩ := hr
                have z1 : (r11 != 0) = true := by simp [z3]
                have z2 : (r11 == 0) = false := by simp [z3]
                have z4 : decide (r11 = 0) = false := by simp [z3]
                have rc0 := (blk_cell HR4.out 0).trans rfl
                have rf0 := blk_frozen HR4.out 0
                have rc1 := (blk_cell HR4.out 1).trans rfl
                have rf1 := blk_frozen HR4.out 1
                have rc2 := (blk_cell HR4.out 2).trans rfl
                have rf2 := blk_frozen HR4.out 2
                have rc3 := (blk_cell HR4.out 3).trans rfl
                have rf3 := blk_frozen HR4.out 3
                have rc4 := (blk_cell HR4.out 4).trans rfl
                have rf4 := blk_frozen HR4.out 4
                have rc5 := (blk_cell HR4.out 5).trans rfl
                have rf5 := blk_frozen HR4.out 5
                have rc6 := (blk_cell HR4.out 6).trans rfl
                have rf6 := blk_frozen HR4.out 6
                have rc7 := (blk_cell HR4.out 7).trans rfl
                have rf7 := blk_frozen HR4.out 7
                have rc8 := (blk_cell HR4.out 8).trans rfl
                have rf8 := blk_frozen HR4.out 8
                have rc9 := (blk_cell HR4.out 9).trans rfl
                have rf9 := blk_frozen HR4.out 9
                go_wp2
                clear kc0 kf0 kc1 kf1 kc2 kf2 kc3 kf3 kc4 kf4 kc5 kf5 kc6 kf6 kc7 kf7 kc8 kf8 kc9 kf9
                clear rc0 rf0 rc1 rf1 rc2 rf2 rc3 rf3 rc4 rf4 rc5 rf5 rc6 rf6 rc7 rf7 rc8 rf8 rc9 rf9
                obtain ⟨hf, hw⟩ := store10 (b := w.heap.size) (blk_far (p := ⟨q, 3, none⟩) (blk_far (p := ⟨q, 2, none⟩) HR4.out (by show w.heap.size ≠ q; omega) (.int .i64 v1)) (by show w.heap.size ≠ q; omega) (.int .i64 v2)) (below_set (j := 3) (v := (.int .i64 v2)) (below_set (j := 2) (v := (.int .i64 v1)) HW4.out (g := q) (by omega)) (g := q) (by omega)) (Nat.le_refl _) (.string ⟨#[]⟩) (.int .i64 0) (.int .i64 0) (.int .i64 0) (.int .i64 0) (.int .i64 0) (.bool false) (.bool false) (.bool false) (.bool false)
                obtain ⟨wz, hwz⟩ : ∃ wz, wz = ((((((((((((w4.setCell ⟨q, 2, none⟩ (.int .i64 v1)).setCell ⟨q, 3, none⟩ (.int .i64 v2)).setCell ⟨w.heap.size, 0, none⟩ (.string ⟨#[]⟩)).setCell ⟨w.heap.size, 1, none⟩ (.int .i64 0)).setCell ⟨w.heap.size, 2, none⟩ (.int .i64 0)).setCell ⟨w.heap.size, 3, none⟩ (.int .i64 0)).setCell ⟨w.heap.size, 4, none⟩ (.int .i64 0)).setCell ⟨w.heap.size, 5, none⟩ (.int .i64 0)).setCell ⟨w.heap.size, 6, none⟩ (.bool false)).setCell ⟨w.heap.size, 7, none⟩ (.bool false)).setCell ⟨w.heap.size, 8, none⟩ (.bool false)).setCell ⟨w.heap.size, 9, none⟩ (.bool false)) := ⟨_, rfl⟩
                rw [← hwz] at hf hw ⊢
                clear hwz
                refine bodyPost_ret (results_ct rfl _ _ (w.heap.size) 44 #[.string ⟨#[]⟩, .int .i64 0, .int .i64 0, .int .i64 0, .int .i64 0, .int .i64 0, .bool false, .bool false, .bool false, .bool false] (0, 0) _ rfl hf Tryd.underlying44 rfl (by kernel_rfl)) rfl ?_
                exact ⟨rfl, hw⟩
end Go.Proofs.YtefhcgnamfnkbaaDoor.Pr
