/- axis.writer: flush, put, done, walked by hand. -/
import Derived.Test.YtefhcgnamfnkbaaDoorAxCheck
import Derived.Deep.DrawnRows
namespace Go.Proofs.YtefhcgnamfnkbaaDoor.Pr
open Go.RowKit Go.Proofs.YtefhcgnamfnkbaaDoorW.PrintWords Go.Proofs.YtefhcgnamfnkbaaDoorW.PrintLast Go.Proofs.YtefhcgnamfnkbaaDoorW.PrintMore

/-- The cells of steps. -/
def flat : List S127 → List Value
  | [] => []
  | s :: l => .int .i64 s.f0 :: .int .i64 s.f1 :: flat l
theorem flat_len : ∀ l : List S127, (flat l).length = l.length * 2
  | [] => rfl
  | s :: l => by simp only [flat, List.length_cons, flat_len l]; omega
theorem flat_app : ∀ l m : List S127, flat (l ++ m) = flat l ++ flat m
  | [], m => rfl
  | s :: l, m => by simp only [List.cons_append, flat, flat_app l m]
theorem reps_flat (w : World) (base : Nat) (ok : Nat → Prop) : ∀ l : List S127, Reps (k127.M w base ok) 2 l (flat l)
  | [] => Reps.none _ _
  | s :: l => Reps.c2 (k127_mkM w base ok s) (reps_flat w base ok l)
/-- Steps that lie at A. -/
def St (w : World) (A : Option Addr) (c : Nat) (l : List S127) : Prop := Kd.C k127 w A l.length l ∧ l.length ≤ c
theorem St.reads {w : World} {A : Option Addr} {c : Nat} {l : List S127} (h : St w A c l) : Kd.C k127 w A l.length l := h.1
theorem St.len {w : World} {A : Option Addr} {c : Nat} {l : List S127} (h : St w A c l) : l.length ≤ c := h.2
theorem St.up {w w' : World} {A : Option Addr} {c : Nat} {l : List S127} (h : St w A c l) (k : Below w.heap.size w w') : St w' A c l := ⟨Kd.C_below h.1 k, h.2⟩
theorem St.nil (w : World) : St w none 0 [] := ⟨(Kd.V_reads' (Kd.R_V (base' := 0) (Kd.R_nil k127 127 w 0 (fun _ => True)))).2.2, Nat.le_refl _⟩
theorem St.own {w : World} {B : Nat} {A : Option Addr} {c : Nat} {l : List S127} (h : w.ownsRow B 127 2 (.slice A l.length c) l.length (flat l)) : St w A c l := by
  have hr : Kd.R k127 127 w B (fun _ => True) (.slice A l.length c) l := ⟨fun _ _ => trivial, flat l, h, reps_flat _ _ _ l⟩
  have hv := Kd.V_reads' (Kd.R_V (base' := 0) hr)
  exact ⟨hv.2.2, hv.2.1⟩
/-- Below B only block g has changed. -/
structure Ap (B g : Nat) (w w' : World) : Prop where
  os : w'.os = w.os
  tape : w'.tape = w.tape
  output : w'.output = w.output
  size : w.heap.size ≤ w'.heap.size
  block : ∀ k, k < B → k ≠ g → w'.heap[k]? = w.heap[k]?
theorem Ap.refl (B g : Nat) (w : World) : Ap B g w w := ⟨rfl, rfl, rfl, Nat.le_refl _, fun _ _ _ => rfl⟩
theorem Ap.trans {B g : Nat} {w w1 w2 : World} (h : Ap B g w w1) (k : Ap B g w1 w2) : Ap B g w w2 := ⟨k.os.trans h.os, k.tape.trans h.tape, k.output.trans h.output, Nat.le_trans h.size k.size, fun i hi hg => (k.block i hi hg).trans (h.block i hi hg)⟩
theorem Ap.ofBelow {B g : Nat} {w w1 : World} (k : Below w.heap.size w w1) (hB : B ≤ w.heap.size) : Ap B g w w1 := ⟨k.os, k.tape, k.output, k.size, fun i hi _ => k.block i (Nat.lt_of_lt_of_le hi hB)⟩
theorem Ap.below {B g : Nat} {w w1 : World} {n : Nat} (h : Ap B g w w1) (hn : n ≤ g) (hB : n ≤ B) : Below n w w1 := ⟨h.os, h.tape, h.output, h.size, fun i hi => h.block i (by omega) (by omega)⟩
/-- The writer at g: what it has written, what it adds, what it cuts; its row lies from B on. -/
def Wr (B : Nat) (w : World) (g : Nat) (l : List S127) (a c : Int) : Prop := ∃ A cap, w.heap[g]? = some (.cells #[.slice A l.length cap, .int .i64 a, .int .i64 c] 117 (0, 0)) ∧ g < B ∧ B ≤ w.heap.size ∧ w.ownsRow B 127 2 (.slice A l.length cap) l.length (flat l)
theorem Wr.up {B : Nat} {w w' : World} {g : Nat} {l : List S127} {a c : Int} (h : Wr B w g l a c) (k : Below w.heap.size w w') : Wr B w' g l a c := by
  obtain ⟨A, cap, h1, h2, h3, h4⟩ := h
  exact ⟨A, cap, blk_below h1 k, h2, Nat.le_trans h3 k.size, own_move h4 (fun i hi => k.block i (own_lt h4 i hi))⟩
theorem Wr.rise {B n : Nat} {w w' : World} {v : Value} {xs : List Value} (h : w.ownsRow B 127 2 v n xs) (k : Below w.heap.size w w') : w'.ownsRow B 127 2 v n xs := own_move h (fun i hi => k.block i (own_lt h i hi))
/-- Memory has only grown. -/
theorem climb {W W' : World} (k : Below W.heap.size W W' := by repeat (first | (with_reducible first | exact Below.refl _ _ | apply below_alloc | apply pw_below_drewN | apply below_drew1) | exact Below.refl _ _)) : Below W.heap.size W W' := k
theorem blk_of_own {B : Nat} {w w0 w1 : World} {g n : Nat} {v : Value} {xs : List Value} {o : Obj} (h1 : w.heap[g]? = some o) (h4 : w.ownsRow B 127 2 v n xs) (h2 : g < B) (hb : Below w.heap.size w w0) (hg : w0.grownBy w1 v.ownBlock) : w1.heap[g]? = some o := by
  rw [hg.block g (Nat.lt_of_lt_of_le (blk_lt h1) hb.size) (fun e => by have := own_base h4 g e.symm; omega)]
  exact blk_below h1 hb
theorem step_info : (Tryd.prog.info? 127).map (fun i => (i.zero, i.size, i.bytes)) = some (some (.agg #[.int .i64 0, .int .i64 0]), 2, 16) := by kernel_rfl
/-- Behind an append the writer's own block is as it was, but for what is stored into it. -/
theorem Wr.stored {B : Nat} {w w0 w1 : World} {g : Nat} {A : Option Addr} {cap : Nat} {l l1 : List S127} {a c : Int} {g1 cap1 : Nat} (h1 : w.heap[g]? = some (.cells #[.slice A l.length cap, .int .i64 a, .int .i64 c] 117 (0, 0))) (h2 : g < B) (h3 : B ≤ w.heap.size)
    (h4 : w.ownsRow B 127 2 (.slice A l.length cap) l.length (flat l)) (hb : Below w.heap.size w w0) (hg : w0.grownBy w1 (Value.slice A l.length cap).ownBlock) (ho : w1.ownsRow B 127 2 (.slice (some ⟨g1, 0, none⟩) l1.length cap1) l1.length (flat l1)) :
    w1.heap[g]? = some (.cells #[.slice A l.length cap, .int .i64 a, .int .i64 c] 117 (0, 0)) ∧ Wr B (w1.setCell ⟨g, 0, none⟩ (.slice (some ⟨g1, 0, none⟩) l1.length cap1)) g l1 a c ∧ Ap B g w (w1.setCell ⟨g, 0, none⟩ (.slice (some ⟨g1, 0, none⟩) l1.length cap1)) := by
  have hn : ∀ i, (Value.slice A l.length cap).ownBlock = some i → B ≤ i := own_base h4
  have hk : w1.heap[g]? = some (.cells #[.slice A l.length cap, .int .i64 a, .int .i64 c] 117 (0, 0)) := by
    rw [hg.block g (Nat.lt_of_lt_of_le (blk_lt h1) hb.size) (fun e => by have := hn g e.symm; omega)]
    exact blk_below h1 hb
  refine ⟨hk, ⟨_, _, blk_put hk 0 _ rfl, h2, ?_, own_move ho (fun i hi => ?_)⟩, ?_, ?_, ?_, ?_, fun i hi hig => ?_⟩
  · rw [World.size_setCell]; exact Nat.le_trans h3 (Nat.le_trans hb.size hg.size)
  · have hB := own_base ho i hi
    exact Below.heap_setCell w1 ⟨g, 0, none⟩ _ i (by show i ≠ g; omega)
  · exact hg.os.trans hb.os
  · exact hg.tape.trans hb.tape
  · exact hg.output.trans hb.output
  · rw [World.size_setCell]; exact Nat.le_trans hb.size hg.size
  · rw [Below.heap_setCell w1 ⟨g, 0, none⟩ _ i hig, hg.block i (by have := hb.size; omega) (fun e => by have := hn i e.symm; omega), hb.block i (by omega)]

theorem own_set2 {B : Nat} {w : World} {g i j n : Nat} {u u' v : Value} {xs : List Value} (h : w.ownsRow B 127 2 v n xs) (h2 : g < B) : ((w.setCell ⟨g, i, none⟩ u).setCell ⟨g, j, none⟩ u').ownsRow B 127 2 v n xs := by
  refine own_move h (fun m hm => ?_)
  have hB := own_base h m hm
  rw [Below.heap_setCell _ ⟨g, j, none⟩ _ m (by show m ≠ g; omega), Below.heap_setCell _ ⟨g, i, none⟩ _ m (by show m ≠ g; omega)]
theorem ap_set2 {B g i j : Nat} {w w1 : World} {u u' : Value} (h : Ap B g w w1) : Ap B g w ((w1.setCell ⟨g, i, none⟩ u).setCell ⟨g, j, none⟩ u') := by
  refine ⟨h.os, h.tape, h.output, by rw [World.size_setCell, World.size_setCell]; exact h.size, fun m hm hg => ?_⟩
  rw [Below.heap_setCell _ ⟨g, j, none⟩ _ m hg, Below.heap_setCell _ ⟨g, i, none⟩ _ m hg]
  exact h.block m hm hg
theorem own_set1 {B : Nat} {w : World} {g j n : Nat} {u v : Value} {xs : List Value} (h : w.ownsRow B 127 2 v n xs) (h2 : g < B) : (w.setCell ⟨g, j, none⟩ u).ownsRow B 127 2 v n xs := by
  refine own_move h (fun m hm => ?_)
  have hB := own_base h m hm
  rw [Below.heap_setCell _ ⟨g, j, none⟩ _ m (by show m ≠ g; omega)]
theorem ap_set1 {B g j : Nat} {w w1 : World} {u : Value} (h : Ap B g w w1) : Ap B g w (w1.setCell ⟨g, j, none⟩ u) := by
  refine ⟨h.os, h.tape, h.output, by rw [World.size_setCell]; exact h.size, fun m hm hg => ?_⟩
  rw [Below.heap_setCell _ ⟨g, j, none⟩ _ m hg]
  exact h.block m hm hg
/-- A step, if there is anything to it. -/
def adds (k n : Int) : List S127 := if 0 < n then [⟨k, n⟩] else []
theorem adds_pos (k : Int) {n : Int} (h : 0 < n) : adds k n = [⟨k, n⟩] := if_pos h
theorem adds_neg (k : Int) {n : Int} (h : ¬ 0 < n) : adds k n = [] := if_neg h
theorem adds_len (k n : Int) : (adds k n).length ≤ 1 := by unfold adds; split <;> simp
set_option maxHeartbeats 2000000 in
set_option maxRecDepth 100000 in
theorem flush_calls (B g : Nat) (l : List S127) (a c : Int) (w : World) (h : Wr B w g l a c) (hl : l.length + 2 ≤ 1099511627776) :
    Calls Tryd.prog 107 #[.pointer (some ⟨g, 0, none⟩)] w fun x w' => x = .returned (.tuple #[]) ∧ Wr B w' g (l ++ adds 1 a ++ adds 2 c) 0 0 ∧ Ap B g w w' := by
  obtain ⟨i0, hi0, hz0, hz1, hz2⟩ := info_parts step_info
  have hW := Aside0.mk h
  obtain ⟨A, cap, h1, h2, h3, h4⟩ := h
  have hh1 := Aside0.mk h1
  have hh4 := Aside0.mk h4
  have c0 : w.cell? ⟨g, 0, none⟩ = some (.slice A l.length cap) := (blk_cell h1 0).trans rfl
  have c1 : w.cell? ⟨g, 1, none⟩ = some (.int .i64 a) := (blk_cell h1 1).trans rfl
  have f0 := blk_frozen h1 0
  have lg := blk_lt h1
  clear h1 h4
  go_enter Tryd.func107, Tryd.ntmps107
  go_upto_if 6 with (fail)
  go_cut [] (fun wx => Wr B wx g (l ++ adds 1 a) a c ∧ Ap B g w wx)
  case first =>
    by_cases hp : 0 < a
    · go_wp2_with fail
      go_region_law
        ((refine step_append_lies _ (by rfl) _ _ _ (by rfl) B 127 i0 _ 2 16 Tryd.underlying52 hi0 hz0 hz1 hz2 rfl (by omega) (.slice A l.length cap) l.length (flat l) (by rfl) (by first | exact (hh4.out.alloc _).drew | exact hh4.out.alloc _)
            ⟨w.heap.size, 0, none⟩ 1 1 [.int .i64 1, .int .i64 a] (by rfl) (by rfl) (World.news_of_block (cs := #[.int .i64 1, .int .i64 a]) (t := 127) (fr := (0, 0)) (heap_alloc_new w _)) (by simp [Value.oneCell'])
            (by omega) (by simp only [maxLen]; omega) (by omega) (by simp; omega) (w.heap.size + 1) (by simp) ?_
          intro gg cap1 w1 hown1 hgrow hat hlt
          have hk1 := Aside0.mk (blk_of_own hh1.out hh4.out h2 climb hgrow)
          have d0 := (blk_cell hk1.out 0).trans rfl
          have e0 := blk_frozen hk1.out 0))
      all_goals
        (try go_wp2)
        go_meet
        case rel =>
          have ho : w1.ownsRow B 127 2 (.slice (some ⟨gg, 0, none⟩) (l ++ [(⟨1, a⟩ : S127)]).length cap1) (l ++ [(⟨1, a⟩ : S127)]).length (flat (l ++ [(⟨1, a⟩ : S127)])) := by
            rw [flat_app, List.length_append]; exact hown1
          have hs := (Wr.stored hh1.out h2 h3 hh4.out climb hgrow ho).2
          rw [adds_pos _ hp]
          simpa only [List.length_append, List.length_singleton] using hs
    · go_wp2
      go_meet
      case rel => rw [adds_neg _ (by omega), List.append_nil]; exact ⟨hW.out, Ap.refl _ _ _⟩
  case rest =>
    clear c0 c1 f0 lg hh1 hh4 h3 hW h2
    obtain ⟨hWr, hA⟩ := hcut
    have HA := Aside0.mk hA
    have hlx : (l ++ adds 1 a).length + 1 ≤ 1099511627776 := by have := adds_len 1 a; rw [List.length_append]; omega
    clear hl hA A cap
    obtain ⟨l1, hl1⟩ : ∃ l1, l1 = l ++ adds 1 a := ⟨_, rfl⟩
    rw [← hl1] at hWr hlx
    have HL := Aside0.mk hl1
    clear hl1
    have hW := Aside0.mk hWr
    obtain ⟨A, cap, h1, h2, h3, h4⟩ := hWr
    have hh1 := Aside0.mk h1
    have hh4 := Aside0.mk h4
    have c0 : wc.cell? ⟨g, 0, none⟩ = some (.slice A l1.length cap) := (blk_cell h1 0).trans rfl
    have c2 : wc.cell? ⟨g, 2, none⟩ = some (.int .i64 c) := (blk_cell h1 2).trans rfl
    have f0 := blk_frozen h1 0
    have lg := blk_lt h1
    clear h1 h4
    go_upto_if 25 with (fail)
    go_cut [] (fun wx => Wr B wx g (l1 ++ adds 2 c) a c ∧ Ap B g wc wx)
    case first =>
     by_cases hp : 0 < c
     · go_wp2_with fail
       go_region_law
         ((refine step_append_lies _ (by rfl) _ _ _ (by rfl) B 127 i0 _ 2 16 Tryd.underlying52 hi0 hz0 hz1 hz2 rfl (by omega) (.slice A l1.length cap) l1.length (flat l1) (by rfl) (by first | exact (hh4.out.alloc _).drew | exact hh4.out.alloc _)
             ⟨wc.heap.size, 0, none⟩ 1 1 [.int .i64 2, .int .i64 c] (by rfl) (by rfl) (World.news_of_block (cs := #[.int .i64 2, .int .i64 c]) (t := 127) (fr := (0, 0)) (heap_alloc_new wc _)) (by simp [Value.oneCell'])
             (by omega) (by simp only [maxLen]; omega) (by omega) (by simp; omega) (wc.heap.size + 1) (by simp) ?_
           intro gg cap1 w1 hown1 hgrow hat hlt
           have hk1 := Aside0.mk (blk_of_own hh1.out hh4.out h2 climb hgrow)
           have d0 := (blk_cell hk1.out 0).trans rfl
           have e0 := blk_frozen hk1.out 0))
       all_goals
         (try go_wp2)
         go_meet
         case rel =>
           have ho : w1.ownsRow B 127 2 (.slice (some ⟨gg, 0, none⟩) (l1 ++ [(⟨2, c⟩ : S127)]).length cap1) (l1 ++ [(⟨2, c⟩ : S127)]).length (flat (l1 ++ [(⟨2, c⟩ : S127)])) := by
             rw [flat_app, List.length_append]; exact hown1
           have hs := (Wr.stored hh1.out h2 h3 hh4.out climb hgrow ho).2
           rw [adds_pos _ hp]
           simpa only [List.length_append, List.length_singleton] using hs
     · go_wp2
       go_meet
       case rel => rw [adds_neg _ (by omega), List.append_nil]; exact ⟨hW.out, Ap.refl _ _ _⟩
    case rest =>
     clear c0 c2 f0 lg hh1 hh4 h3 hW h2
     obtain ⟨hWr, hA⟩ := hcut
     obtain ⟨A', cap', h1, h2, h3, h4⟩ := hWr
     have HA2 := Aside0.mk (HA.out.trans hA)
     clear HA hA
     have hh1 := Aside0.mk h1
     have hh4 := Aside0.mk h4
     have d1 : wc.cell? ⟨g, 1, none⟩ = some (.int .i64 a) := (blk_cell h1 1).trans rfl
     have d2 : wc.cell? ⟨g, 2, none⟩ = some (.int .i64 c) := (blk_cell h1 2).trans rfl
     have f1 := blk_frozen h1 1
     have f2 := blk_frozen h1 2
     clear h1 h4
     go_wp2
     go_end0
     rw [← HL.out]
     exact ⟨rfl, ⟨A', cap', blk_put (blk_put hh1.out 1 _ rfl) 2 _ rfl, h2, by rw [World.size_setCell, World.size_setCell]; exact h3, own_set2 hh4.out h2⟩, ap_set2 HA2.out⟩

theorem Ap.then {B g : Nat} {w0 w w1 : World} (h : Below w0.heap.size w0 w) (k : Ap B g w w1) (hg : w0.heap.size ≤ g) (hB : w0.heap.size ≤ B) : Below w0.heap.size w0 w1 :=
  ⟨k.os.trans h.os, k.tape.trans h.tape, k.output.trans h.output, Nat.le_trans h.size k.size, fun i hi => (k.block i (by omega) (by omega)).trans (h.block i hi)⟩
set_option maxHeartbeats 2000000 in
set_option maxRecDepth 100000 in
theorem done_calls (k B g : Nat) (l : List S127) (a c e : Int) (w0 w : World) (hGl : Gl w0) (hb0 : Below w0.heap.size w0 w) (hg0 : w0.heap.size ≤ g) (hB0 : w0.heap.size ≤ B) (h : Wr B w g l a c) (hl : l.length + 2 ≤ 1099511627776) (he : axis_Check.f k (l ++ adds 1 a ++ adds 2 c) = some e) :
    Calls Tryd.prog 67 #[.pointer (some ⟨g, 0, none⟩)] w fun x w' => ∃ A cap, x = .returned (.tuple #[.slice A (if e = 0 then l ++ adds 1 a ++ adds 2 c else []).length cap, .int .i64 (if e = 0 then 0 else 3)]) ∧ St w' A cap (if e = 0 then l ++ adds 1 a ++ adds 2 c else []) ∧ Ap B g w w' := by
  obtain ⟨l2, hl2⟩ : ∃ l2, l2 = l ++ adds 1 a ++ adds 2 c := ⟨_, rfl⟩
  rw [← hl2] at he ⊢
  have HL := Aside0.mk hl2
  clear hl2
  have hW := Aside0.mk h
  have HB := Aside0.mk hb0
  have HE := Aside0.mk he
  clear h hb0 he
  go_enter Tryd.func67, Tryd.ntmps67
  go_upto_region 2 with ((go_at_call 107; (with_reducible refine (flush_calls B g l a c _ (hW.out.up climb) hl).mono ?_); rintro _ w1 ⟨rfl, h1, h2⟩))
  rw [← HL.out] at h1
  have HW1 := Aside0.mk h1
  have HA1 := Aside0.mk h2
  obtain ⟨A, cap, k1, k2, k3, k4⟩ := h1
  have K1 := Aside0.mk k1
  have K4 := Aside0.mk k4
  have HB1 := Aside0.mk (Ap.then HB.out h2 hg0 hB0)
  have c0 : w1.cell? ⟨g, 0, none⟩ = some (.slice A l2.length cap) := (blk_cell k1 0).trans rfl
  clear h2 k1 k4
  by_cases hz : e = 0
  · subst hz
    go_wp2_with (first | (go_at_call 61; (with_reducible refine (axis_Check.calls k A cap _ 0 _ (St.own K4.out).reads (St.own K4.out).len (gl_below hGl HB1.out) HE.out).mono ?_); rintro _ w2 ⟨rfl, hb⟩; have d0 : w2.cell? ⟨g, 0, none⟩ = some (.slice A l2.length cap) := (blk_cell (blk_below K1.out hb) 0).trans rfl; have HB2 := Aside0.mk hb; clear hb))
    go_ret2
    exact ⟨A, cap, rfl, (St.own K4.out).up HB2.out, HA1.out.trans (Ap.ofBelow HB2.out k3)⟩
  · go_wp2_with (first | (go_at_call 61; (with_reducible refine (axis_Check.calls k A cap _ e _ (St.own K4.out).reads (St.own K4.out).len (gl_below hGl HB1.out) HE.out).mono ?_); rintro _ w2 ⟨rfl, hb⟩; have HB2 := Aside0.mk hb; clear hb))
    go_ret2
    (try rw [if_neg hz, if_neg hz])
    exact ⟨none, 0, rfl, St.nil _, HA1.out.trans (Ap.ofBelow HB2.out k3)⟩
end Go.Proofs.YtefhcgnamfnkbaaDoor.Pr
