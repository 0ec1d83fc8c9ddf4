/- value.Enter's readers at one text, walked by hand: digits, grouped, number. -/
import Derived.Test.YtckfdhnimmaeiaaGreatDoorDa
import Derived.Test.YtckfdhnimmaeiaaGreatDoorPrx6
import Derived.Test.YtckfdhnimmaeiaaGreatDoorPrx10
import Derived.Test.YtckfdhnimmaeiaaGreatDoorShort
namespace Go.Proofs.YtckfdhnimmaeiaaGreatDoor.Pr
open Go.RowKit Go.Proofs.YtckfdhnimmaeiaaGreatDoorW.PrintWords Go.Proofs.YtckfdhnimmaeiaaGreatDoorW.PrintLast Go.Proofs.YtckfdhnimmaeiaaGreatDoorW.PrintMore
set_option linter.unusedVariables false
set_option linter.unusedSimpArgs false
def dgS : ByteArray := ⟨#[48, 49, 50, 51, 52, 53, 54, 55, 56, 57]⟩
theorem trimdig_calls (s r : ByteArray) (w : World) (hGl : Gl w) (h : strings_TrimLeft.f s dgS = some r) :
    Calls Tryz.prog 108 #[.string s, .string ⟨#[48, 49, 50, 51, 52, 53, 54, 55, 56, 57]⟩] w fun e w' => e = .returned (.string r) ∧ Below w.heap.size w w' := strings_TrimLeft.calls s dgS r w hGl h
set_option maxHeartbeats 2000000 in
set_option maxRecDepth 100000 in
theorem digits_calls (s d r : ByteArray) (w : World) (hGl : Gl w) (hr : strings_TrimLeft.f s dgS = some r) (hle : r.size ≤ s.size) (hs : s.size ≤ 1000000) (hd : s.extract 0 (s.size - r.size) = d) :
    Calls Tryz.prog 78 #[.string s] w fun e w' => e = .returned (.tuple #[.string d, .string r]) ∧ Below w.heap.size w w' := by
  have HR := Aside0.mk hr
  have HG := Aside0.mk hGl
  have q1 : ((s.size : Int) - (r.size : Int)).toNat = s.size - r.size := by omega
  have q2 : 0 ≤ (s.size : Int) - (r.size : Int) := by omega
  have HD := Aside0.mk hd
  clear hr hGl hd
  go_enter Tryz.func78, Tryz.ntmps78
  go_wp2_with (first | (go_at_call 108; (with_reducible refine (trimdig_calls s r _ HG.out HR.out).mono ?_); rintro _ w1 ⟨rfl, hb1⟩; have B1 := Aside0.mk hb1; clear hb1))
  go_ret2
  exact ⟨by rw [← HD.out]; rfl, bl B1.out⟩
set_option maxHeartbeats 2000000 in
set_option maxRecDepth 100000 in
theorem grouped_calls (s d r : ByteArray) (w : World) (hGl : Gl w) (hr : strings_TrimLeft.f s dgS = some r) (hle : r.size ≤ s.size) (hs : s.size ≤ 1000000) (hd : s.extract 0 (s.size - r.size) = d) (h4 : 3 < d.size) (h5 : d.size ≤ 1000000) :
    Calls Tryz.prog 67 #[.string s] w fun e w' => e = .returned (.tuple #[.string d, .string r]) ∧ Below w.heap.size w w' := by
  have DC := Aside0.mk (fun w hGl => digits_calls s d r w hGl hr hle hs hd)
  have HG := Aside0.mk hGl
  have h6 : ¬ (d.size : Int) < 1 := by omega
  have h7 : (d.size : Int) > 3 := by omega
  clear hr hd hGl
  go_enter Tryz.func67, Tryz.ntmps67
  go_wp2_with (first | (go_at_call 78; (with_reducible refine (DC.out _ HG.out).mono ?_); rintro _ w1 ⟨rfl, hb1⟩; have B1 := Aside0.mk hb1; clear hb1))
  go_ret2
  exact ⟨rfl, bl B1.out⟩
set_option maxHeartbeats 2000000 in
set_option maxRecDepth 100000 in
theorem cutsuf0_calls (s p : ByteArray) (w : World) (hs : s.size ≤ 1000000) (h : Lib.hasSuffix s.data.toList p.data.toList = false) :
    Calls Tryz.prog 99 #[.string s, .string p] w fun e w' => e = .returned (.tuple #[.string s, .bool false]) ∧ Below w.heap.size w w' := by
  have HH := Aside0.mk h
  clear h
  go_enter Tryz.func99, Tryz.ntmps99
  go_wp2_with (first | (go_at_call 128; (with_reducible refine (Tryz.stringslite_HasSuffix s p _ (by omega)).mono ?_); rintro _ w1 ⟨rfl, hb1⟩; subst hb1; rw [HH.out]))
  go_ret2
  exact ⟨rfl, climb⟩
set_option maxHeartbeats 2000000 in
set_option maxRecDepth 100000 in
theorem cutsuf_calls (s p : ByteArray) (w : World) (hs : s.size ≤ 1000000) (h : Lib.hasSuffix s.data.toList p.data.toList = false) :
    Calls Tryz.prog 68 #[.string s, .string p] w fun e w' => e = .returned (.tuple #[.string s, .bool false]) ∧ Below w.heap.size w w' := by
  have HH := Aside0.mk h
  clear h
  go_enter Tryz.func68, Tryz.ntmps68
  go_wp2_with (first | (go_at_call 99; (with_reducible refine (cutsuf0_calls s p _ hs HH.out).mono ?_); rintro _ w1 ⟨rfl, hb1⟩; have B1 := Aside0.mk hb1; clear hb1))
  go_ret2
  exact ⟨rfl, bl B1.out⟩
/-- A fraction in memory. -/
theorem fr_cells {w : World} {g : Nat} {a b : ByteArray} (h : w.heap[g]? = some (.cells #[.string a, .string b] 30 (0, 0))) :
    w.cell? ⟨g, 0, none⟩ = some (.string a) ∧ w.cell? ⟨g, 1, none⟩ = some (.string b) ∧ w.frozen? ⟨g, 0, none⟩ = false ∧ w.frozen? ⟨g, 1, none⟩ = false :=
  ⟨(blk_cell h 0).trans rfl, (blk_cell h 1).trans rfl, blk_frozen h 0, blk_frozen h 1⟩
set_option maxHeartbeats 2000000 in
set_option maxRecDepth 100000 in
theorem number_no (s d r z0 z1 : ByteArray) (k : Nat) (e : Int) (w : World) (hGl : Gl w) (h0 : 0 < s.size) (hp : ¬ (s[0]'h0).toNat = 43) (hm : ¬ (s[0]'h0).toNat = 45) (hr : strings_TrimLeft.f s dgS = some r) (hle : r.size ≤ s.size) (hs : s.size ≤ 1000000) (hd : s.extract 0 (s.size - r.size) = d) (h4 : 3 < d.size) (h5 : d.size ≤ 1000000) (hsuf : Lib.hasSuffix r.data.toList [37] = false) (hP : exact_Parse.f k (d ++ r) = some (z0, z1, e)) (he : e ≠ 0) (hde : d.toList.isEmpty = false) :
    Calls Tryz.prog 44 #[.string s] w fun x w' => x = .returned (.tuple #[.agg #[.string z0, .string z1], .bool false]) ∧ Below w.heap.size w w' := by
  have GC := Aside0.mk (fun w hGl => grouped_calls s d r w hGl hr hle hs hd h4 h5)
  have SC := Aside0.mk (fun w => cutsuf_calls r ⟨#[37]⟩ w (by omega) hsuf)
  have PC := Aside0.mk (fun w hGl => exact_Parse.calls k (d ++ r) z0 z1 e w hGl hP)
  have HG := Aside0.mk hGl
  have q1 : (((s[0]'h0).toNat : Int) == 43) = false := beq_eq_false_iff_ne.2 (by omega)
  have q2 : (((s[0]'h0).toNat : Int) == 45) = false := beq_eq_false_iff_ne.2 (by omega)
  have q3 : (e == 0) = false := beq_eq_false_iff_ne.2 he
  have q4 : (0 : Int) < (s.size : Int) := by omega
  have hcat : ¬ 9223372036854775807 < d.size + r.size := by omega
  have hcat0 : ¬ 9223372036854775807 < 0 + d.size := by omega
  have he0 : (⟨#[]⟩ : ByteArray) ++ d = d := ByteArray.empty_append
  clear hr hd hsuf hP hGl
  go_enter Tryz.func44, Tryz.ntmps44
  go_upto_region 1 with (fail)
  obtain ⟨g, hg⟩ : ∃ g, g = w.heap.size := ⟨_, rfl⟩
  have K := Aside0.mk (show (w.alloc (.cells #[.string ⟨#[]⟩, .string ⟨#[]⟩] 30)).heap[g]? = some (.cells #[.string ⟨#[]⟩, .string ⟨#[]⟩] 30 (0, 0)) from hg ▸ blk_new w _)
  have B := Aside0.mk (show Below w.heap.size w (w.alloc (.cells #[.string ⟨#[]⟩, .string ⟨#[]⟩] 30)) from climb)
  obtain ⟨W, hW⟩ : ∃ W, W = w.alloc (.cells #[.string ⟨#[]⟩, .string ⟨#[]⟩] 30) := ⟨_, rfl⟩
  rw [← hW] at K B ⊢
  rw [← hg]
  have HGG := Aside0.mk hg
  clear hW hg
  go_upto_region 9 with (first
    | (go_at_call 67; (with_reducible refine (GC.out _ (gl_below HG.out B.out)).mono ?_); rintro _ w1 ⟨rfl, hb1⟩; have B_ := Aside0.mk (below_step B.out hb1); have K_ := Aside0.mk (blk_below K.out hb1); clear B K hb1; have B := B_; have K := K_; clear B_ K_)
    | (go_at_call 68; (with_reducible refine (SC.out _).mono ?_); rintro _ w1 ⟨rfl, hb1⟩; have B_ := Aside0.mk (below_step B.out hb1); have K_ := Aside0.mk (blk_below K.out hb1); clear B K hb1; have B := B_; have K := K_; clear B_ K_)
    | (go_at_call 69; (try rw [he0]); (with_reducible refine (PC.out _ (gl_below HG.out B.out)).mono ?_); rintro _ w1 ⟨rfl, hb1⟩; have B_ := Aside0.mk (below_step B.out hb1); have K_ := Aside0.mk (blk_below K.out hb1); clear B K hb1; have B := B_; have K := K_; clear B_ K_))
  have K2 := Aside0.mk (blk_alloc K.out (.cells #[.string z0, .string z1] 30))
  have K3 := Aside0.mk (blk_new w1 (.cells #[.string z0, .string z1] 30))
  have B2 := Aside0.mk (show Below w.heap.size w (w1.alloc (.cells #[.string z0, .string z1] 30)) from below_step B.out climb)
  obtain ⟨W2, hW2⟩ : ∃ W2, W2 = w1.alloc (.cells #[.string z0, .string z1] 30) := ⟨_, rfl⟩
  rw [← hW2] at K2 K3 B2 ⊢
  clear hW2 K B
  obtain ⟨k0, k1, f0, f1⟩ := fr_cells K2.out
  obtain ⟨m0, m1, _, _⟩ := fr_cells K3.out
  go_wp2
  refine bodyPost_ret (results_ct rfl _ _ g 30 #[.string z0, .string z1] (0, 0) _ rfl (blk_put (cs := #[.string z0, .string ⟨#[]⟩]) (blk_put (cs := #[.string ⟨#[]⟩, .string ⟨#[]⟩]) K2.out 0 _ rfl) 1 _ rfl) Tryz.underlying30 rfl (by kernel_rfl)) rfl ?_
  exact ⟨rfl, below_set (below_set B2.out (by rw [HGG.out]; exact Nat.le_refl _)) (by rw [HGG.out]; exact Nat.le_refl _)⟩
end Go.Proofs.YtckfdhnimmaeiaaGreatDoor.Pr
