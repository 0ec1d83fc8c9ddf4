/- value.Enter's readers at a plain decimal text: digits, grouped, number; TrimRight of zeros, TrimSuffix of a point. TrimRight of zeros, TrimSuffix of a point; value.decimal. -/
import Derived.Test.YtckfdhnimmaeiaaGreatDoorEa
import Derived.Test.YtckfdhnimmaeiaaGreatDoorGp
import Derived.Test.YtckfdhnimmaeiaaGreatDoorEe
namespace Go.Proofs.YtckfdhnimmaeiaaGreatDoor.Pr
open Go.RowKit Go.Proofs.YtckfdhnimmaeiaaGreatDoorW.PrintWords Go.Proofs.YtckfdhnimmaeiaaGreatDoorW.PrintLast Go.Proofs.YtckfdhnimmaeiaaGreatDoorW.PrintMore
open Go.Proofs.YtckfdhnimmaeiaaGreatDoor.Pure (B)
set_option linter.unusedVariables false
set_option linter.unusedSimpArgs false
theorem dg_trim (l r : List UInt8) (hl : Pure.Dec l) (hr : ∀ c, r.head? = some c → Pure.isD c = false) : strings_TrimLeft.f (B (l ++ r)) dgS = some (B r) := by
  unfold strings_TrimLeft.f
  rw [if_pos ⟨by decide, by decide⟩]
  have hf : (fun b => Pure.ten0.contains b) = Pure.isD := funext Pure.ten_contains
  have : Lib.trimLeftS (l ++ r) Pure.ten0 = r := by
    unfold Lib.trimLeftS
    rw [hf]
    exact Pure.drop_run l r hl hr
  show some (B (Lib.trimLeftS (l ++ r) Pure.ten0)) = some (B r)
  rw [this]
theorem dg_take (l r : List UInt8) : (B (l ++ r)).extract 0 ((B (l ++ r)).size - (B r).size) = B l := by
  rw [Pure.B_size, Pure.B_size, List.length_append, Nat.add_sub_cancel]
  have := Pure.ex_take (l ++ r) l.length
  rw [List.take_left' rfl] at this
  exact this
theorem digits_B (l r : List UInt8) (hl : Pure.Dec l) (hr : ∀ c, r.head? = some c → Pure.isD c = false) (hn : l.length + r.length ≤ 1000000) (w : World) (hGl : Gl w) :
    Calls Tryz.prog 78 #[.string (B (l ++ r))] w fun e w' => e = .returned (.tuple #[.string (B l), .string (B r)]) ∧ Below w.heap.size w w' :=
  digits_calls _ _ _ w hGl (dg_trim l r hl hr) (by rw [Pure.B_size, Pure.B_size, List.length_append]; omega) (by rw [Pure.B_size, List.length_append]; omega) (dg_take l r)
set_option maxHeartbeats 2000000 in
set_option maxRecDepth 100000 in
theorem grouped_small (s d r : ByteArray) (w : World) (hGl : Gl w) (hD : ∀ w, Gl w → Calls Tryz.prog 78 #[.string s] w fun e w' => e = .returned (.tuple #[.string d, .string r]) ∧ Below w.heap.size w w') (h4 : 1 ≤ d.size) (h5 : d.size ≤ 3) (hc : strings_HasPrefix.f r ⟨#[44]⟩ = some false) :
    Calls Tryz.prog 67 #[.string s] w fun e w' => e = .returned (.tuple #[.string d, .string r]) ∧ Below w.heap.size w w' := by
  have DC := Aside0.mk hD
  have HC := Aside0.mk (fun w hGl => strings_HasPrefix.calls r ⟨#[44]⟩ false w hGl hc)
  have HG := Aside0.mk hGl
  have h6 : ¬ (d.size : Int) < 1 := by omega
  have h7 : ¬ (d.size : Int) > 3 := by omega
  clear hD hGl hc
  go_enter Tryz.func67, Tryz.ntmps67
  go_wp2_with (first | (go_at_call 78; (with_reducible refine (DC.out _ HG.out).mono ?_); rintro _ w1 ⟨rfl, hb1⟩; have B1 := Aside0.mk hb1; clear hb1))
  go_loopg [4, 5] 0 (fun kq v4 v5 w' => v4 = .string d ∧ v5 = .string r ∧ Aside0 (Below w.heap.size w w'))
  case atStart => exact ⟨rfl, rfl, ⟨bl B1.out⟩⟩
  case round =>
    clear B1
    obtain ⟨rfl, rfl, B1⟩ := hrel
    go_wp2_with (first | (go_at_call 90; (with_reducible refine (HC.out _ (gl_below HG.out (bl B1.out))).mono ?_); rintro _ w1 ⟨rfl, hd1⟩; have hb1 := hd1.below; clear hd1; have B_ := Aside0.mk (below_step (bl B1.out) hb1); clear B1 hb1; have B1 := B_; clear B_))
    go_ret2
    exact ⟨rfl, bl B1.out⟩
theorem hasp_no (z : UInt8) (l : List UInt8) (h : l.head? ≠ some z) : strings_HasPrefix.f (B l) ⟨#[z]⟩ = some false := by
  unfold strings_HasPrefix.f
  rw [Pure.hasp, decide_eq_false h]
  rfl
theorem grouped_B (l r : List UInt8) (hl : Pure.Dec l) (h0 : l ≠ []) (hr : ∀ c, r.head? = some c → Pure.isD c = false) (hc : r.head? ≠ some 44) (hn : l.length + r.length ≤ 1000000) (w : World) (hGl : Gl w) :
    Calls Tryz.prog 67 #[.string (B (l ++ r))] w fun e w' => e = .returned (.tuple #[.string (B l), .string (B r)]) ∧ Below w.heap.size w w' := by
  have hp : 0 < l.length := List.length_pos_iff.2 h0
  by_cases h : l.length ≤ 3
  · exact grouped_small _ _ _ w hGl (digits_B l r hl hr hn) (by rw [Pure.B_size]; omega) (by rw [Pure.B_size]; omega) (hasp_no 44 r hc)
  · exact grouped_calls _ _ _ w hGl (dg_trim l r hl hr) (by rw [Pure.B_size, Pure.B_size, List.length_append]; omega) (by rw [Pure.B_size, List.length_append]; omega) (dg_take l r) (by rw [Pure.B_size]; omega) (by rw [Pure.B_size]; omega)
theorem hp97 (w : World) : Calls Tryz.prog 97 #[.string ⟨#[45]⟩, .string ⟨#[43]⟩] w fun e w' => e = .returned (.bool false) ∧ w' = w := by
  have q : ((⟨#[45]⟩ : ByteArray).extract 0 1).toList = [45] := by decide +kernel
  go_enter Tryz.func97, Tryz.ntmps97
  go_wp2
  all_goals
    go_ret
    exact ⟨rfl, rfl⟩
theorem tp98 (w : World) : Calls Tryz.prog 98 #[.string ⟨#[45]⟩, .string ⟨#[43]⟩] w fun e w' => e = .returned (.string ⟨#[45]⟩) ∧ w' = w := by
  go_enter Tryz.func98, Tryz.ntmps98
  go_wp2_with (first | (go_at_call 97; (with_reducible refine (hp97 _).mono ?_); rintro _ w1 ⟨rfl, rfl⟩))
  go_ret
  exact ⟨rfl, rfl⟩
theorem tp66 (w : World) : Calls Tryz.prog 66 #[.string ⟨#[45]⟩, .string ⟨#[43]⟩] w fun e w' => e = .returned (.string ⟨#[45]⟩) ∧ w' = w := by
  go_enter Tryz.func66, Tryz.ntmps66
  go_wp2_with (first | (go_at_call 98; (with_reducible refine (tp98 _).mono ?_); rintro _ w1 ⟨rfl, rfl⟩))
  go_ret
  exact ⟨rfl, rfl⟩
set_option maxHeartbeats 2000000 in
set_option maxRecDepth 100000 in
theorem number_pos (s d r z0 z1 : ByteArray) (k : Nat) (w : World) (hGl : Gl w) (h0 : 0 < s.size) (hp : ¬ (s[0]'h0).toNat = 43) (hm : ¬ (s[0]'h0).toNat = 45) (hg : ∀ w, Gl w → Calls Tryz.prog 67 #[.string s] w fun e w' => e = .returned (.tuple #[.string d, .string r]) ∧ Below w.heap.size w w') (hs : d.size + r.size ≤ 1000000) (hsuf : Lib.hasSuffix r.data.toList [37] = false) (hP : exact_Parse.f k (d ++ r) = some (z0, z1, 0)) (hde : d.toList.isEmpty = false) :
    Calls Tryz.prog 44 #[.string s] w fun x w' => x = .returned (.tuple #[.agg #[.string z0, .string z1], .bool true]) ∧ Below w.heap.size w w' := by
  have GC := Aside0.mk hg
  have SC := Aside0.mk (fun w => cutsuf_calls r ⟨#[37]⟩ w (by omega) hsuf)
  have PC := Aside0.mk (fun w hGl => exact_Parse.calls k (d ++ r) z0 z1 0 w hGl hP)
  have HG := Aside0.mk hGl
  have q1 : (((s[0]'h0).toNat : Int) == 43) = false := beq_eq_false_iff_ne.2 (by omega)
  have q2 : (((s[0]'h0).toNat : Int) == 45) = false := beq_eq_false_iff_ne.2 (by omega)
  have q4 : (0 : Int) < (s.size : Int) := by omega
  have hcat : ¬ 9223372036854775807 < d.size + r.size := by omega
  have hcat0 : ¬ 9223372036854775807 < 0 + d.size := by omega
  have he0 : (⟨#[]⟩ : ByteArray) ++ d = d := ByteArray.empty_append
  clear hg hsuf hP hGl
  go_enter Tryz.func44, Tryz.ntmps44
  go_upto_region 1 with (fail)
  obtain ⟨g, hg⟩ : ∃ g, g = w.heap.size := ⟨_, rfl⟩
  have K := Aside0.mk (show (w.alloc (.cells #[.string ⟨#[]⟩, .string ⟨#[]⟩] 30)).heap[g]? = some (.cells #[.string ⟨#[]⟩, .string ⟨#[]⟩] 30 (0, 0)) from hg ▸ blk_new w _)
  have B := Aside0.mk (show Below w.heap.size w (w.alloc (.cells #[.string ⟨#[]⟩, .string ⟨#[]⟩] 30)) from climb)
  obtain ⟨W, hW⟩ : ∃ W, W = w.alloc (.cells #[.string ⟨#[]⟩, .string ⟨#[]⟩] 30) := ⟨_, rfl⟩
  rw [← hW] at K B ⊢
  rw [← hg]
  have HGG := Aside0.mk hg
  clear hW hg
  go_upto_region 9 with (first
    | (go_at_call 67; (with_reducible refine (GC.out _ (gl_below HG.out B.out)).mono ?_); rintro _ w1 ⟨rfl, hb1⟩; have B_ := Aside0.mk (below_step B.out hb1); have K_ := Aside0.mk (blk_below K.out hb1); clear B K hb1; have B := B_; have K := K_; clear B_ K_)
    | (go_at_call 68; (with_reducible refine (SC.out _).mono ?_); rintro _ w1 ⟨rfl, hb1⟩; have B_ := Aside0.mk (below_step B.out hb1); have K_ := Aside0.mk (blk_below K.out hb1); clear B K hb1; have B := B_; have K := K_; clear B_ K_)
    | (go_at_call 69; (try rw [he0]); (with_reducible refine (PC.out _ (gl_below HG.out B.out)).mono ?_); rintro _ w1 ⟨rfl, hb1⟩; have B_ := Aside0.mk (below_step B.out hb1); have K_ := Aside0.mk (blk_below K.out hb1); clear B K hb1; have B := B_; have K := K_; clear B_ K_))
  have K2 := Aside0.mk (blk_alloc K.out (.cells #[.string z0, .string z1] 30))
  have K3 := Aside0.mk (blk_new w1 (.cells #[.string z0, .string z1] 30))
  have B2 := Aside0.mk (show Below w.heap.size w (w1.alloc (.cells #[.string z0, .string z1] 30)) from below_step B.out climb)
  obtain ⟨W2, hW2⟩ : ∃ W2, W2 = w1.alloc (.cells #[.string z0, .string z1] 30) := ⟨_, rfl⟩
  rw [← hW2] at K2 K3 B2 ⊢
  clear hW2 K B
  obtain ⟨k0, k1, f0, f1⟩ := fr_cells K2.out
  obtain ⟨m0, m1, _, _⟩ := fr_cells K3.out
  go_wp2
  refine bodyPost_ret (results_ct rfl _ _ g 30 #[.string z0, .string z1] (0, 0) _ rfl (blk_put (cs := #[.string z0, .string ⟨#[]⟩]) (blk_put (cs := #[.string ⟨#[]⟩, .string ⟨#[]⟩]) K2.out 0 _ rfl) 1 _ rfl) Tryz.underlying30 rfl (by kernel_rfl)) rfl ?_
  exact ⟨rfl, below_set (below_set B2.out (by rw [HGG.out]; exact Nat.le_refl _)) (by rw [HGG.out]; exact Nat.le_refl _)⟩
set_option maxHeartbeats 2000000 in
set_option maxRecDepth 100000 in
theorem number_neg (s u d r z0 z1 : ByteArray) (k : Nat) (w : World) (hGl : Gl w) (h0 : 0 < s.size) (hm : (s[0]'h0).toNat = 45) (hu : s.extract 1 s.size = u) (hu0 : s.extract 0 1 = ⟨#[45]⟩) (hg : ∀ w, Gl w → Calls Tryz.prog 67 #[.string u] w fun e w' => e = .returned (.tuple #[.string d, .string r]) ∧ Below w.heap.size w w') (hs : d.size + r.size ≤ 1000000) (hsuf : Lib.hasSuffix r.data.toList [37] = false) (hP : exact_Parse.f k (⟨#[45]⟩ ++ d ++ r) = some (z0, z1, 0)) (hde : d.toList.isEmpty = false) :
    Calls Tryz.prog 44 #[.string s] w fun x w' => x = .returned (.tuple #[.agg #[.string z0, .string z1], .bool true]) ∧ Below w.heap.size w w' := by
  have GC := Aside0.mk hg
  have SC := Aside0.mk (fun w => cutsuf_calls r ⟨#[37]⟩ w (by omega) hsuf)
  have PC := Aside0.mk (fun w hGl => exact_Parse.calls k (⟨#[45]⟩ ++ d ++ r) z0 z1 0 w hGl hP)
  have HG := Aside0.mk hGl
  have q1 : (((s[0]'h0).toNat : Int) == 43) = false := beq_eq_false_iff_ne.2 (by omega)
  have q2 : (((s[0]'h0).toNat : Int) == 45) = true := beq_iff_eq.2 (by omega)
  have q4 : (0 : Int) < (s.size : Int) := by omega
  have q5 : (1 : Int) ≤ (s.size : Int) := by omega
  have hcat : ¬ 9223372036854775807 < 1 + d.size + r.size := by omega
  have hcat0 : ¬ 9223372036854775807 < 1 + d.size := by omega
  clear hg hsuf hP hGl hm
  go_enter Tryz.func44, Tryz.ntmps44
  go_upto_region 1 with (fail)
  obtain ⟨g, hg⟩ : ∃ g, g = w.heap.size := ⟨_, rfl⟩
  have K := Aside0.mk (show (w.alloc (.cells #[.string ⟨#[]⟩, .string ⟨#[]⟩] 30)).heap[g]? = some (.cells #[.string ⟨#[]⟩, .string ⟨#[]⟩] 30 (0, 0)) from hg ▸ blk_new w _)
  have B := Aside0.mk (show Below w.heap.size w (w.alloc (.cells #[.string ⟨#[]⟩, .string ⟨#[]⟩] 30)) from climb)
  obtain ⟨W, hW⟩ : ∃ W, W = w.alloc (.cells #[.string ⟨#[]⟩, .string ⟨#[]⟩] 30) := ⟨_, rfl⟩
  rw [← hW] at K B ⊢
  rw [← hg]
  have HGG := Aside0.mk hg
  clear hW hg
  go_wp2_with (fail)
  go_quiet ((go_at_call 66; exact Calls.quiet_of_same (tp66 _)))
  rename_i nq
  have B_ := Aside0.mk (below_step B.out (show Below W.heap.size W (W.drewN nq) from climb))
  have K_ := Aside0.mk (blk_drewN K.out nq)
  obtain ⟨W4, hW4⟩ : ∃ W4, W4 = W.drewN nq := ⟨_, rfl⟩
  rw [← hW4] at K_ B_ ⊢
  clear hW4 K B
  have B := B_
  have K := K_
  clear B_ K_
  go_upto_region 9 with (first
    | (go_at_call 67; (with_reducible refine (GC.out _ (gl_below HG.out B.out)).mono ?_); rintro _ w1 ⟨rfl, hb1⟩; have B_ := Aside0.mk (below_step B.out hb1); have K_ := Aside0.mk (blk_below K.out hb1); clear B K hb1; have B := B_; have K := K_; clear B_ K_)
    | (go_at_call 68; (with_reducible refine (SC.out _).mono ?_); rintro _ w1 ⟨rfl, hb1⟩; have B_ := Aside0.mk (below_step B.out hb1); have K_ := Aside0.mk (blk_below K.out hb1); clear B K hb1; have B := B_; have K := K_; clear B_ K_)
    | (go_at_call 69; (with_reducible refine (PC.out _ (gl_below HG.out B.out)).mono ?_); rintro _ w1 ⟨rfl, hb1⟩; have B_ := Aside0.mk (below_step B.out hb1); have K_ := Aside0.mk (blk_below K.out hb1); clear B K hb1; have B := B_; have K := K_; clear B_ K_))
  have K2 := Aside0.mk (blk_alloc K.out (.cells #[.string z0, .string z1] 30))
  have K3 := Aside0.mk (blk_new w1 (.cells #[.string z0, .string z1] 30))
  have B2 := Aside0.mk (show Below w.heap.size w (w1.alloc (.cells #[.string z0, .string z1] 30)) from below_step B.out climb)
  obtain ⟨W2, hW2⟩ : ∃ W2, W2 = w1.alloc (.cells #[.string z0, .string z1] 30) := ⟨_, rfl⟩
  rw [← hW2] at K2 K3 B2 ⊢
  clear hW2 K B
  obtain ⟨k0, k1, f0, f1⟩ := fr_cells K2.out
  obtain ⟨m0, m1, _, _⟩ := fr_cells K3.out
  go_wp2
  refine bodyPost_ret (results_ct rfl _ _ g 30 #[.string z0, .string z1] (0, 0) _ rfl (blk_put (cs := #[.string z0, .string ⟨#[]⟩]) (blk_put (cs := #[.string ⟨#[]⟩, .string ⟨#[]⟩]) K2.out 0 _ rfl) 1 _ rfl) Tryz.underlying30 rfl (by kernel_rfl)) rfl ?_
  exact ⟨rfl, below_set (below_set B2.out (by rw [HGG.out]; exact Nat.le_refl _)) (by rw [HGG.out]; exact Nat.le_refl _)⟩
end Go.Proofs.YtckfdhnimmaeiaaGreatDoor.Pr
namespace Go.Proofs.YtckfdhnimmaeiaaGreatDoor.Pr
open Go.RowKit Go.Proofs.YtckfdhnimmaeiaaGreatDoorW.PrintWords Go.Proofs.YtckfdhnimmaeiaaGreatDoorW.PrintLast Go.Proofs.YtckfdhnimmaeiaaGreatDoorW.PrintMore
open Go.Proofs.YtckfdhnimmaeiaaGreatDoor.Pure (B)
set_option linter.unusedVariables false
set_option linter.unusedSimpArgs false
theorem last_at (r : ByteArray) (h : 0 < r.size) : r.data.toList.getLast? = some (r[r.size - 1]'(by omega)) := by
  rw [List.getLast?_eq_getElem?, Array.length_toList]
  show r.data.toList[r.data.size - 1]? = _
  rw [List.getElem?_eq_getElem (by rw [Array.length_toList]; show r.size - 1 < r.size; omega)]
  rfl
set_option maxHeartbeats 2000000 in
set_option maxRecDepth 100000 in
theorem trz113 (X : List UInt8) (hX : X.getLast? ≠ some 48) (n : Nat) (hn : X.length + n ≤ 1000000) (w : World) :
    Calls Tryz.prog 113 #[.string (B (X ++ List.replicate n 48)), .int .u8 48] w fun e w' => e = .returned (.string (B X)) ∧ w' = w := by
  have HX := Aside0.mk hX
  obtain ⟨s, hs⟩ : ∃ s, s = B (X ++ List.replicate n 48) := ⟨_, rfl⟩
  obtain ⟨x, hx⟩ : ∃ x, x = B X := ⟨_, rfl⟩
  rw [← hs, ← hx]
  have HS := Aside0.mk hs
  have HXX := Aside0.mk hx
  clear hX hs hx
  go_enter Tryz.func113, Tryz.ntmps113
  go_wp2_with (fail)
  go_loopg [0] n (fun kq v0 w' => ∃ r, v0 = .string r ∧ Aside0 (r = B (X ++ List.replicate kq 48)) ∧ kq ≤ n ∧ w' = w)
  case atStart => exact ⟨s, rfl, HS, Nat.le_refl _, rfl⟩
  case round =>
    obtain ⟨r, rfl, HR, hk, rfl⟩ := hrel
    have hsz : r.size = X.length + gk := by rw [HR.out, Pure.B_size, List.length_append, List.length_replicate]
    by_cases h0 : r.size = 0
    · have q : ¬ (r.size : Int) > 0 := by omega
      obtain rfl : gk = 0 := by omega
      have hrx : r = x := by rw [HR.out, HXX.out]; simp
      subst hrx
      clear hsz
      go_wp2
      go_ret
      exact ⟨rfl, rfl⟩
    · have q : (r.size : Int) > 0 := by omega
      have hl := last_at r (by omega)
      have q5 : (1 : Int) ≤ (r.size : Int) := by omega
      have HSZ := Aside0.mk hsz
      have hle : r.size ≤ 1000000 := by omega
      cases gk with
      | zero =>
        have hrx : r = x := by rw [HR.out, HXX.out]; simp
        have hc : ¬ (r[r.size - 1]'(by omega)).toNat = 48 := by
          intro e
          apply HX.out
          have h2 : r.data.toList = X := by rw [HR.out]; simp
          rw [h2] at hl
          rw [hl]
          exact congrArg some (UInt8.toNat_inj.1 e)
        have q2 : (((r[r.size - 1]'(by omega)).toNat : Int) == 48) = false := beq_eq_false_iff_ne.2 (by omega)
        have HRX := Aside0.mk hrx
        clear hsz hl hrx hc h0
        go_wp2
        go_ret
        exact ⟨congrArg (fun z => Ending.returned (Value.string z)) HRX.out, rfl⟩
      | succ m =>
        have h2 : r.data.toList = X ++ List.replicate (m + 1) 48 := by rw [HR.out]
        have hc : (r[r.size - 1]'(by omega)).toNat = 48 := by
          rw [h2, List.replicate_succ', ← List.append_assoc, List.getLast?_concat] at hl
          exact (congrArg UInt8.toNat (Option.some.inj hl)).symm
        have q2 : (((r[r.size - 1]'(by omega)).toNat : Int) == 48) = true := beq_iff_eq.2 (by omega)
        have he : r.extract 0 (r.size - 1) = B (X ++ List.replicate m 48) := by
          have e1 : r = B ((X ++ List.replicate m 48) ++ [48]) := by rw [HR.out, List.replicate_succ', ← List.append_assoc]
          have e2 : r.size - 1 = (X ++ List.replicate m 48).length := by rw [hsz, List.length_append, List.length_replicate]; omega
          rw [e2, e1]
          have := Pure.ex_take ((X ++ List.replicate m 48) ++ [48]) (X ++ List.replicate m 48).length
          rw [List.take_left' rfl] at this
          exact this
        have HE := Aside0.mk he
        clear hsz hl hc h0 he h2
        go_wp2
        go_roundg m
        case measure => omega
        case rel => exact ⟨_, rfl, HE, by omega, rfl⟩
set_option maxHeartbeats 2000000 in
set_option maxRecDepth 100000 in
/-- strings.TrimRight(s, "0"). -/
theorem trz84 (X : List UInt8) (hX : X.getLast? ≠ some 48) (n : Nat) (hn : X.length + n ≤ 1000000) (hne : X ++ List.replicate n 48 ≠ []) (w : World) :
    Calls Tryz.prog 84 #[.string (B (X ++ List.replicate n 48)), .string ⟨#[48]⟩] w fun e w' => e = .returned (.string (B X)) ∧ w' = w := by
  have TC := Aside0.mk (fun w => trz113 X hX n hn w)
  obtain ⟨s, hs⟩ : ∃ s, s = B (X ++ List.replicate n 48) := ⟨_, rfl⟩
  obtain ⟨x, hx⟩ : ∃ x, x = B X := ⟨_, rfl⟩
  rw [← hs, ← hx] at TC ⊢
  have q : s.toList.isEmpty = false := by
    rw [ByteArray.toList_eq, hs]
    cases h : X ++ List.replicate n 48 with
    | nil => exact absurd h hne
    | cons a l => rfl
  have hz : ((⟨#[48]⟩ : ByteArray)[0]'(by decide)).toNat = 48 := by decide +kernel
  clear hX hn hne hs hx
  go_enter Tryz.func84, Tryz.ntmps84
  go_wp2_with (first | (go_at_call 113; (with_reducible refine (TC.out _).mono ?_); rintro _ w1 ⟨rfl, rfl⟩))
  go_ret
  exact ⟨rfl, rfl⟩
set_option maxHeartbeats 2000000 in
set_option maxRecDepth 100000 in
/-- strings.TrimSuffix(s, "."). -/
theorem tsd112 (X : List UInt8) (hX : X.length ≤ 1000000) (w : World) :
    Calls Tryz.prog 112 #[.string (B (X ++ [46])), .string ⟨#[46]⟩] w fun e w' => e = .returned (.string (B X)) ∧ w' = w := by
  obtain ⟨s, hs⟩ : ∃ s, s = B (X ++ [46]) := ⟨_, rfl⟩
  obtain ⟨x, hx⟩ : ∃ x, x = B X := ⟨_, rfl⟩
  rw [← hs, ← hx]
  have hsz : s.size = X.length + 1 := by rw [hs, Pure.B_size, List.length_append]; rfl
  have HH := Aside0.mk (show Lib.hasSuffix s.data.toList [46] = true by
    rw [hs]
    show Lib.hasSuffix (B (X ++ [46])).data.toList [46] = true
    simp [Lib.hasSuffix])
  have he : s.extract 0 (s.size - 1) = x := by
    rw [hsz, hs, hx]
    have := Pure.ex_take (X ++ [46]) X.length
    rw [List.take_left' rfl] at this
    exact this
  have HE := Aside0.mk he
  have h1 : 1 ≤ s.size := by omega
  have h2 : s.size ≤ 1000001 := by omega
  have q1 : (1 : Int) ≤ (s.size : Int) := by omega
  clear hs hx hsz he
  go_enter Tryz.func112, Tryz.ntmps112
  go_wp2_with (first
    | (go_at_call 128; (with_reducible refine (Tryz.stringslite_HasSuffix s ⟨#[46]⟩ _ (by omega)).mono ?_); rintro _ w1 ⟨rfl, hb1⟩; subst hb1; rw [HH.out]))
  go_ret
  exact ⟨congrArg (fun z => Ending.returned (Value.string z)) HE.out, rfl⟩
set_option maxHeartbeats 2000000 in
set_option maxRecDepth 100000 in
theorem tsn112 (s : ByteArray) (hs : s.size ≤ 1000000) (h : Lib.hasSuffix s.data.toList [46] = false) (w : World) :
    Calls Tryz.prog 112 #[.string s, .string ⟨#[46]⟩] w fun e w' => e = .returned (.string s) ∧ w' = w := by
  have HH := Aside0.mk (show Lib.hasSuffix s.data.toList (⟨#[46]⟩ : ByteArray).data.toList = false from h)
  clear h
  go_enter Tryz.func112, Tryz.ntmps112
  go_wp2_with (first
    | (go_at_call 128; (with_reducible refine (Tryz.stringslite_HasSuffix s ⟨#[46]⟩ _ (by omega)).mono ?_); rintro _ w1 ⟨rfl, hb1⟩; subst hb1; rw [HH.out]))
  go_ret
  exact ⟨rfl, rfl⟩
theorem tsd83 (s x : ByteArray) (h : ∀ w, Calls Tryz.prog 112 #[.string s, .string ⟨#[46]⟩] w fun e w' => e = .returned (.string x) ∧ w' = w) (w : World) :
    Calls Tryz.prog 83 #[.string s, .string ⟨#[46]⟩] w fun e w' => e = .returned (.string x) ∧ w' = w := by
  have TC := Aside0.mk h
  clear h
  go_enter Tryz.func83, Tryz.ntmps83
  go_wp2_with (first | (go_at_call 112; (with_reducible refine (TC.out _).mono ?_); rintro _ w1 ⟨rfl, rfl⟩))
  go_ret
  exact ⟨rfl, rfl⟩
end Go.Proofs.YtckfdhnimmaeiaaGreatDoor.Pr
