/- value.Enter's readers at one text: whole, mixed, count, date. -/
import Derived.Test.YtckfdhnimmaeiaaGreatDoorEa
namespace Go.Proofs.YtckfdhnimmaeiaaGreatDoor.Pr
open Go.RowKit Go.Proofs.YtckfdhnimmaeiaaGreatDoorW.PrintWords Go.Proofs.YtckfdhnimmaeiaaGreatDoorW.PrintLast Go.Proofs.YtckfdhnimmaeiaaGreatDoorW.PrintMore
open Go.Proofs.YtckfdhnimmaeiaaGreatDoor.Sd
set_option linter.unusedVariables false
set_option linter.unusedSimpArgs false
set_option maxHeartbeats 2000000 in
set_option maxRecDepth 100000 in
theorem whole_no (s d r : ByteArray) (w : World) (hGl : Gl w) (hr : strings_TrimLeft.f s dgS = some r) (hle : r.size ≤ s.size) (hs : s.size ≤ 1000000) (hd : s.extract 0 (s.size - r.size) = d) (hno : d.toList.isEmpty = true ∨ (d.toList.isEmpty = false ∧ r.toList.isEmpty = false)) :
    Calls Tryz.prog 73 #[.string s] w fun x w' => x = .returned (.tuple #[.agg #[.string ⟨#[]⟩, .string ⟨#[]⟩], .bool false]) ∧ Below w.heap.size w w' := by
  have DC := Aside0.mk (fun w hGl => digits_calls s d r w hGl hr hle hs hd)
  have HG := Aside0.mk hGl
  clear hr hd hGl
  go_enter Tryz.func73, Tryz.ntmps73
  go_upto_region 1 with (fail)
  obtain ⟨g, hg⟩ : ∃ g, g = w.heap.size := ⟨_, rfl⟩
  have K := Aside0.mk (show (w.alloc (.cells #[.string ⟨#[]⟩, .string ⟨#[]⟩] 30)).heap[g]? = some (.cells #[.string ⟨#[]⟩, .string ⟨#[]⟩] 30 (0, 0)) from hg ▸ blk_new w _)
  have B := Aside0.mk (show Below w.heap.size w (w.alloc (.cells #[.string ⟨#[]⟩, .string ⟨#[]⟩] 30)) from climb)
  obtain ⟨W, hW⟩ : ∃ W, W = w.alloc (.cells #[.string ⟨#[]⟩, .string ⟨#[]⟩] 30) := ⟨_, rfl⟩
  rw [← hW] at K B ⊢
  rw [← hg]
  have HGG := Aside0.mk hg
  clear hW hg
  go_upto_region 2 with (first | (go_at_call 78; (with_reducible refine (DC.out _ (gl_below HG.out (bl B.out))).mono ?_); rintro _ w1 ⟨rfl, hb1⟩; have B_ := Aside0.mk (below_step (bl B.out) hb1); have K_ := Aside0.mk (blk_below (blk_below K.out climb) hb1); clear B K hb1; have B := B_; have K := K_; clear B_ K_))
  obtain ⟨k0, k1, f0, f1⟩ := fr_cells K.out
  rcases hno with hde | ⟨hde, hre⟩
  all_goals
    go_wp2
    refine bodyPost_ret (results_ct rfl _ _ g 30 #[.string ⟨#[]⟩, .string ⟨#[]⟩] (0, 0) _ rfl (blk_put (cs := #[.string ⟨#[]⟩, .string ⟨#[]⟩]) (blk_put (cs := #[.string ⟨#[]⟩, .string ⟨#[]⟩]) K.out 0 _ rfl) 1 _ rfl) Tryz.underlying30 rfl (by kernel_rfl)) rfl ?_
    exact ⟨rfl, below_set (below_set B.out (by rw [HGG.out]; exact Nat.le_refl _)) (by rw [HGG.out]; exact Nat.le_refl _)⟩
set_option maxHeartbeats 2000000 in
set_option maxRecDepth 100000 in
theorem count_yes (s : ByteArray) (n : Nat) (v : Int) (w : World) (hGl : Gl w) (hr : strings_TrimLeft.f s dgS = some ⟨#[]⟩) (hs : s.size = n) (hn : n ≤ 18) (ha : strconv_Atoi.f s = some (v, none)) :
    Calls Tryz.prog 77 #[.string s, .int .i64 (n : Int)] w fun x w' => x = .returned (.tuple #[.int .i64 v, .bool true]) ∧ Below w.heap.size w w' := by
  have DC := Aside0.mk (fun w hGl => digits_calls s s ⟨#[]⟩ w hGl hr (Nat.zero_le _) (by omega) (by show s.extract 0 (s.size - 0) = s; rw [Nat.sub_zero, ByteArray.extract_zero_size]))
  have AC := Aside0.mk (fun w hGl => strconv_Atoi.calls s v none w hGl ha)
  have HG := Aside0.mk hGl
  have q1 : (s.size : Int) = (n : Int) := by omega
  have B := Aside0.mk (Below.refl w.heap.size w)
  clear hr ha hGl
  go_enter Tryz.func77, Tryz.ntmps77
  go_wp2_with (first
    | (go_at_call 78; (with_reducible refine (DC.out _ (gl_below HG.out (bl B.out))).mono ?_); rintro _ w1 ⟨rfl, hb1⟩; have B_ := Aside0.mk (below_step (bl B.out) hb1); clear B hb1; have B := B_; clear B_)
    | (go_at_call 86; (with_reducible refine (AC.out _ (gl_below HG.out (bl B.out))).mono ?_); rintro _ w1 ⟨rfl, hb1⟩; have B_ := Aside0.mk (below_step (bl B.out) hb1); clear B hb1; have B := B_; clear B_; rw [errW_none]))
  repeat (go_quiet (fail); try go_wp2)
  go_ret2
  exact ⟨rfl, bl B.out⟩
theorem cut_calls (s sep : ByteArray) (w : World) (hGl : Gl w) (hs : s.size ≤ 1000000) (h : Lib.cut s.data.toList sep.data.toList = (s.data.toList, [], false)) :
    Calls Tryz.prog 72 #[.string s, .string sep] w fun e w' => e = .returned (.tuple #[.string s, .string ⟨#[]⟩, .bool false]) ∧ Below w.heap.size w w' := by
  obtain ⟨m, hm⟩ := hGl.most
  refine (Tryz.strings_Cut s sep m w (by omega) hm).mono ?_
  rintro e w' ⟨rfl, hw⟩
  refine ⟨?_, (Drawn0.mk hw).below⟩
  rw [h]
set_option maxHeartbeats 4000000 in
set_option maxRecDepth 100000 in
theorem mixed_no (s : ByteArray) (w : World) (hGl : Gl w) (hs : s.size ≤ 1000000) (hp : strings_CutPrefix.f s ⟨#[45]⟩ = some (s, false)) (hc : Lib.cut s.data.toList [32] = (s.data.toList, [], false)) (hc2 : Lib.cut [] [47] = ([], [], false))
    (hw : ∀ w, Gl w → Calls Tryz.prog 73 #[.string s] w fun x w' => x = .returned (.tuple #[.agg #[.string ⟨#[]⟩, .string ⟨#[]⟩], .bool false]) ∧ Below w.heap.size w w')
    (hw0 : ∀ w, Gl w → Calls Tryz.prog 73 #[.string ⟨#[]⟩] w fun x w' => x = .returned (.tuple #[.agg #[.string ⟨#[]⟩, .string ⟨#[]⟩], .bool false]) ∧ Below w.heap.size w w') :
    Calls Tryz.prog 45 #[.string s] w fun x w' => x = .returned (.tuple #[.agg #[.string ⟨#[]⟩, .string ⟨#[]⟩], .bool false]) ∧ Below w.heap.size w w' := by
  have PC := Aside0.mk (fun w hGl => strings_CutPrefix.calls s ⟨#[45]⟩ s false w hGl hp)
  have CC := Aside0.mk (fun w hGl => cut_calls s ⟨#[32]⟩ w hGl hs hc)
  have CC2 := Aside0.mk (fun w hGl => cut_calls ⟨#[]⟩ ⟨#[47]⟩ w hGl (Nat.zero_le _) hc2)
  have HW := Aside0.mk hw
  have HW0 := Aside0.mk hw0
  have HG := Aside0.mk hGl
  clear hp hc hc2 hw hw0 hGl
  go_enter Tryz.func45, Tryz.ntmps45
  go_upto_region 1 with (fail)
  obtain ⟨g, hg⟩ : ∃ g, g = w.heap.size := ⟨_, rfl⟩
  have K := Aside0.mk (show (w.alloc (.cells #[.string ⟨#[]⟩, .string ⟨#[]⟩] 30)).heap[g]? = some (.cells #[.string ⟨#[]⟩, .string ⟨#[]⟩] 30 (0, 0)) from hg ▸ blk_new w _)
  have B := Aside0.mk (show Below w.heap.size w (w.alloc (.cells #[.string ⟨#[]⟩, .string ⟨#[]⟩] 30)) from climb)
  obtain ⟨W, hW⟩ : ∃ W, W = w.alloc (.cells #[.string ⟨#[]⟩, .string ⟨#[]⟩] 30) := ⟨_, rfl⟩
  rw [← hW] at K B ⊢
  rw [← hg]
  have HGG := Aside0.mk hg
  clear hW hg
  go_upto_region 7 with (first
    | (go_at_call 40; (with_reducible refine (PC.out _ (gl_below HG.out (bl B.out))).mono ?_); rintro _ w1 ⟨rfl, hd1⟩; have hb1 := hd1.below; have B_ := Aside0.mk (below_step (bl B.out) hb1); have K_ := Aside0.mk (blk_below (blk_below K.out climb) hb1); clear B K hb1 hd1; have B := B_; have K := K_; clear B_ K_)
    | (go_at_call 72; (with_reducible refine (CC.out _ (gl_below HG.out (bl B.out))).mono ?_); rintro _ w1 ⟨rfl, hb1⟩; have B_ := Aside0.mk (below_step (bl B.out) hb1); have K_ := Aside0.mk (blk_below (blk_below K.out climb) hb1); clear B K hb1; have B := B_; have K := K_; clear B_ K_)
    | (go_at_call 72; (with_reducible refine (CC2.out _ (gl_below HG.out (bl B.out))).mono ?_); rintro _ w1 ⟨rfl, hb1⟩; have B_ := Aside0.mk (below_step (bl B.out) hb1); have K_ := Aside0.mk (blk_below (blk_below K.out climb) hb1); clear B K hb1; have B := B_; have K := K_; clear B_ K_)
    | (go_at_call 73; (with_reducible refine (HW.out _ (gl_below HG.out (bl B.out))).mono ?_); rintro _ w1 ⟨rfl, hb1⟩; have B_ := Aside0.mk (below_step (bl B.out) hb1); have K_ := Aside0.mk (blk_below (blk_below K.out climb) hb1); clear B K hb1; have B := B_; have K := K_; clear B_ K_)
    | (go_at_call 73; (with_reducible refine (HW0.out _ (gl_below HG.out (bl B.out))).mono ?_); rintro _ w1 ⟨rfl, hb1⟩; have B_ := Aside0.mk (below_step (bl B.out) hb1); have K_ := Aside0.mk (blk_below (blk_below K.out climb) hb1); clear B K hb1; have B := B_; have K := K_; clear B_ K_))
  have K2 := Aside0.mk (blk_alloc K.out (.cells #[.string ⟨#[]⟩, .string ⟨#[]⟩] 30))
  have B2 := Aside0.mk (show Below w.heap.size w (w1.alloc (.cells #[.string ⟨#[]⟩, .string ⟨#[]⟩] 30)) from below_step B.out climb)
  obtain ⟨W2, hW2⟩ : ∃ W2, W2 = w1.alloc (.cells #[.string ⟨#[]⟩, .string ⟨#[]⟩] 30) := ⟨_, rfl⟩
  rw [← hW2] at K2 B2 ⊢
  clear hW2 K B
  obtain ⟨k0, k1, f0, f1⟩ := fr_cells K2.out
  go_wp2
  refine bodyPost_ret (results_ct rfl _ _ g 30 #[.string ⟨#[]⟩, .string ⟨#[]⟩] (0, 0) _ rfl (blk_put (cs := #[.string ⟨#[]⟩, .string ⟨#[]⟩]) (blk_put (cs := #[.string ⟨#[]⟩, .string ⟨#[]⟩]) K2.out 0 _ rfl) 1 _ rfl) Tryz.underlying30 rfl (by kernel_rfl)) rfl ?_
  exact ⟨rfl, below_set (below_set B2.out (by rw [HGG.out]; exact Nat.le_refl _)) (by rw [HGG.out]; exact Nat.le_refl _)⟩
/-- The text that is read, and its parts. -/
def s0 : ByteArray := ⟨#[49, 57, 48, 48, 45, 48, 49, 45, 48, 50]⟩
def sA : ByteArray := ⟨#[49, 57, 48, 48]⟩
def sB : ByteArray := ⟨#[48, 49]⟩
def sC : ByteArray := ⟨#[48, 50]⟩
theorem split_calls (w : World) (hGl : Gl w) :
    Calls Tryz.prog 76 #[.string s0, .string ⟨#[45]⟩] w fun e w' => e = .returned (.slice (some ⟨w.heap.size, 0, none⟩) 3 3) ∧ w' = w.alloc (.cells #[.string sA, .string sB, .string sC] 9) := by
  obtain ⟨m, hm⟩ := hGl.most
  have h := Tryz.strings_Split s0 ⟨#[45]⟩ m w (by decide) hm (by decide)
  have e1 : Lib.countB s0 ⟨#[45]⟩ = 2 := by decide +kernel
  have e2 : ((Lib.splitB ⟨#[45]⟩ 0 2 s0).map Value.string).toArray = #[.string sA, .string sB, .string sC] := by
    have e3 : Lib.splitB ⟨#[45]⟩ 0 2 s0 = [sA, sB, sC] := by decide +kernel
    rw [e3]; rfl
  rw [e1, e2] at h
  exact h
end Go.Proofs.YtckfdhnimmaeiaaGreatDoor.Pr
