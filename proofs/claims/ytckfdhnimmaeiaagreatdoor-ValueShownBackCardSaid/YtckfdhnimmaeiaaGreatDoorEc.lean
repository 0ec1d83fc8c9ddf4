/- value.date at one text. -/
import Derived.Test.YtckfdhnimmaeiaaGreatDoorEb
namespace Go.Proofs.YtckfdhnimmaeiaaGreatDoor.Pr
open Go.RowKit Go.Proofs.YtckfdhnimmaeiaaGreatDoorW.PrintWords Go.Proofs.YtckfdhnimmaeiaaGreatDoorW.PrintLast Go.Proofs.YtckfdhnimmaeiaaGreatDoorW.PrintMore
open Go.Proofs.YtckfdhnimmaeiaaGreatDoor.Sd
set_option linter.unusedVariables false
set_option linter.unusedSimpArgs false
theorem day_c (w : World) : Calls Tryz.prog 9 #[.int .i64 1900, .int .i64 1, .int .i64 2] w fun r w' => r = .returned (.tuple #[.int .i64 2, .bool true]) ∧ Below w.heap.size w w' := by
  have h := day_yes 1900 0 2 w (by decide) (by decide) (by decide) (by decide) (by decide) (by decide)
  have e : bef 1900 + cum (leap 1900) 0 + 2 = 2 := by decide
  rw [e] at h
  exact h
def s2 : ByteArray := ⟨#[50]⟩
def s1 : ByteArray := ⟨#[49]⟩
theorem of_c (w : World) (hGl : Gl w) : Calls Tryz.prog 71 #[.int .i64 2] w fun e w' => e = .returned (.agg #[.string s2, .string s1]) ∧ Below w.heap.size w w' :=
  exact_Of.calls 2 s2 s1 w hGl (by decide +kernel)
theorem countA (w : World) (hGl : Gl w) : Calls Tryz.prog 77 #[.string sA, .int .i64 4] w fun x w' => x = .returned (.tuple #[.int .i64 1900, .bool true]) ∧ Below w.heap.size w w' :=
  count_yes sA 4 1900 w hGl (by decide +kernel) rfl (by decide) (by decide +kernel)
theorem countB (w : World) (hGl : Gl w) : Calls Tryz.prog 77 #[.string sB, .int .i64 2] w fun x w' => x = .returned (.tuple #[.int .i64 1, .bool true]) ∧ Below w.heap.size w w' :=
  count_yes sB 2 1 w hGl (by decide +kernel) rfl (by decide) (by decide +kernel)
theorem countC (w : World) (hGl : Gl w) : Calls Tryz.prog 77 #[.string sC, .int .i64 2] w fun x w' => x = .returned (.tuple #[.int .i64 2, .bool true]) ∧ Below w.heap.size w w' :=
  count_yes sC 2 2 w hGl (by decide +kernel) rfl (by decide) (by decide +kernel)
set_option maxHeartbeats 4000000 in
set_option maxRecDepth 100000 in
theorem date_c (w : World) (hGl : Gl w) :
    Calls Tryz.prog 46 #[.string s0] w fun x w' => x = .returned (.tuple #[.agg #[.string s2, .string s1], .bool true]) ∧ Below w.heap.size w w' := by
  have SPC := Aside0.mk split_calls
  have HG := Aside0.mk hGl
  obtain ⟨S, hS⟩ : ∃ S, S = s0 := ⟨_, rfl⟩
  rw [← hS] at SPC ⊢
  obtain ⟨a, ha⟩ : ∃ a, a = sA := ⟨_, rfl⟩
  obtain ⟨b, hb⟩ : ∃ b, b = sB := ⟨_, rfl⟩
  obtain ⟨c, hc⟩ : ∃ c, c = sC := ⟨_, rfl⟩
  obtain ⟨t, ht⟩ : ∃ t, t = s2 := ⟨_, rfl⟩
  obtain ⟨o, ho⟩ : ∃ o, o = s1 := ⟨_, rfl⟩
  have CA := Aside0.mk countA
  have CB := Aside0.mk countB
  have CC := Aside0.mk countC
  have OC := Aside0.mk of_c
  rw [← ha, ← hb, ← hc] at SPC
  rw [← ha] at CA
  rw [← hb] at CB
  rw [← hc] at CC
  rw [← ht, ← ho] at OC ⊢
  clear hS ha hb hc ht ho hGl
  go_enter Tryz.func46, Tryz.ntmps46
  go_upto_region 1 with (fail)
  obtain ⟨g, hg⟩ : ∃ g, g = w.heap.size := ⟨_, rfl⟩
  have K := Aside0.mk (show (w.alloc (.cells #[.string ⟨#[]⟩, .string ⟨#[]⟩] 30)).heap[g]? = some (.cells #[.string ⟨#[]⟩, .string ⟨#[]⟩] 30 (0, 0)) from hg ▸ blk_new w _)
  have B := Aside0.mk (show Below w.heap.size w (w.alloc (.cells #[.string ⟨#[]⟩, .string ⟨#[]⟩] 30)) from climb)
  obtain ⟨W, hW⟩ : ∃ W, W = w.alloc (.cells #[.string ⟨#[]⟩, .string ⟨#[]⟩] 30) := ⟨_, rfl⟩
  rw [← hW] at K B ⊢
  rw [← hg]
  have HGG := Aside0.mk hg
  clear hW hg
  go_upto_region 2 with (first | (go_at_call 76; (with_reducible refine (SPC.out _ (gl_below HG.out (bl B.out))).mono ?_); rintro _ w1 ⟨rfl, rfl⟩))
  obtain ⟨g2, hg2⟩ : ∃ g2, g2 = W.heap.size := ⟨_, rfl⟩
  have L := Aside0.mk (show (W.alloc (.cells #[.string a, .string b, .string c] 9)).heap[g2]? = some (.cells #[.string a, .string b, .string c] 9 (0, 0)) from hg2 ▸ blk_new W _)
  have K2 := Aside0.mk (blk_alloc K.out (.cells #[.string a, .string b, .string c] 9))
  have B2 := Aside0.mk (show Below w.heap.size w (W.alloc (.cells #[.string a, .string b, .string c] 9)) from below_step B.out climb)
  obtain ⟨W2, hW2⟩ : ∃ W2, W2 = W.alloc (.cells #[.string a, .string b, .string c] 9) := ⟨_, rfl⟩
  rw [← hW2] at L K2 B2 ⊢
  rw [← hg2]
  clear hW2 hg2 K B
  have K := K2
  have B := B2
  clear K2 B2
  have l0 : W2.cell? ⟨g2, 0, none⟩ = some (.string a) := (blk_cell L.out 0).trans rfl
  go_upto_region 5 with (first | (go_at_call 77; (with_reducible refine (CA.out _ (gl_below HG.out (bl B.out))).mono ?_); rintro _ w1 ⟨rfl, hb1⟩; have B_ := Aside0.mk (below_step (bl B.out) hb1); have K_ := Aside0.mk (blk_below (blk_below K.out climb) hb1); have L_ := Aside0.mk (blk_below (blk_below L.out climb) hb1); clear B K L hb1; have B := B_; have K := K_; have L := L_; clear B_ K_ L_; have l1 : w1.cell? ⟨g2, 1, none⟩ = some (.string b) := (blk_cell L.out 1).trans rfl))
  go_upto_region 6 with (first | (go_at_call 77; (with_reducible refine (CB.out _ (gl_below HG.out (bl B.out))).mono ?_); rintro _ w1 ⟨rfl, hb1⟩; have B_ := Aside0.mk (below_step (bl B.out) hb1); have K_ := Aside0.mk (blk_below (blk_below K.out climb) hb1); have L_ := Aside0.mk (blk_below (blk_below L.out climb) hb1); clear B K L hb1; have B := B_; have K := K_; have L := L_; clear B_ K_ L_; have l2 : w1.cell? ⟨g2, 2, none⟩ = some (.string c) := (blk_cell L.out 2).trans rfl))
  go_upto_region 7 with (first | (go_at_call 77; (with_reducible refine (CC.out _ (gl_below HG.out (bl B.out))).mono ?_); rintro _ w1 ⟨rfl, hb1⟩; have B_ := Aside0.mk (below_step (bl B.out) hb1); have K_ := Aside0.mk (blk_below (blk_below K.out climb) hb1); clear B K L hb1; have B := B_; have K := K_; clear B_ K_))
  go_wp2_with (first
    | (go_at_call 9; (with_reducible refine (day_c _).mono ?_); rintro _ w1 ⟨rfl, hb1⟩; have B_ := Aside0.mk (below_step (bl B.out) hb1); have K_ := Aside0.mk (blk_below (blk_below K.out climb) hb1); clear B K hb1; have B := B_; have K := K_; clear B_ K_)
    | (go_at_call 71; (with_reducible refine (OC.out _ (gl_below HG.out (bl B.out))).mono ?_); rintro _ w1 ⟨rfl, hb1⟩; have B_ := Aside0.mk (below_step (bl B.out) hb1); have K_ := Aside0.mk (blk_below (blk_below K.out climb) hb1); clear B K hb1; have B := B_; have K := K_; clear B_ K_; obtain ⟨k0, k1, f0, f1⟩ := fr_cells K.out))
  refine bodyPost_ret (results_ct rfl _ _ g 30 #[.string t, .string o] (0, 0) _ rfl (blk_put (cs := #[.string t, .string ⟨#[]⟩]) (blk_put (cs := #[.string ⟨#[]⟩, .string ⟨#[]⟩]) K.out 0 _ rfl) 1 _ rfl) Tryz.underlying30 rfl (by kernel_rfl)) rfl ?_
  exact ⟨rfl, below_set (below_set B.out (by rw [HGG.out]; exact Nat.le_refl _)) (by rw [HGG.out]; exact Nat.le_refl _)⟩
def sR : ByteArray := ⟨#[45, 48, 49, 45, 48, 50]⟩
theorem number_c (w : World) (hGl : Gl w) :
    ∃ z0 z1 : ByteArray, Calls Tryz.prog 44 #[.string s0] w fun x w' => x = .returned (.tuple #[.agg #[.string z0, .string z1], .bool false]) ∧ Below w.heap.size w w' := by
  have hP : ∃ z0 z1 e, exact_Parse.f 20 (sA ++ sR) = some (z0, z1, e) ∧ e ≠ 0 := ⟨⟨#[]⟩, ⟨#[]⟩, 10, by decide +kernel, by decide⟩
  obtain ⟨z0, z1, e, h1, h2⟩ := hP
  exact ⟨z0, z1, number_no s0 sA sR z0 z1 20 e w hGl (by decide) (by decide) (by decide) (by decide +kernel) (by decide) (by decide) (by decide) (by decide) (by decide) (by decide +kernel) h1 h2 (by decide +kernel)⟩
theorem whole_c (w : World) (hGl : Gl w) : Calls Tryz.prog 73 #[.string s0] w fun x w' => x = .returned (.tuple #[.agg #[.string ⟨#[]⟩, .string ⟨#[]⟩], .bool false]) ∧ Below w.heap.size w w' :=
  whole_no s0 sA sR w hGl (by decide +kernel) (by decide) (by decide) (by decide) (.inr ⟨by decide +kernel, by decide +kernel⟩)
theorem whole_0 (w : World) (hGl : Gl w) : Calls Tryz.prog 73 #[.string ⟨#[]⟩] w fun x w' => x = .returned (.tuple #[.agg #[.string ⟨#[]⟩, .string ⟨#[]⟩], .bool false]) ∧ Below w.heap.size w w' :=
  whole_no ⟨#[]⟩ ⟨#[]⟩ ⟨#[]⟩ w hGl (by decide +kernel) (by decide) (by decide) (by decide) (.inl (by decide +kernel))
theorem mixed_c (w : World) (hGl : Gl w) : Calls Tryz.prog 45 #[.string s0] w fun x w' => x = .returned (.tuple #[.agg #[.string ⟨#[]⟩, .string ⟨#[]⟩], .bool false]) ∧ Below w.heap.size w w' :=
  mixed_no s0 w hGl (by decide) (by decide +kernel) (by decide +kernel) (by decide +kernel) whole_c whole_0
end Go.Proofs.YtckfdhnimmaeiaaGreatDoor.Pr
