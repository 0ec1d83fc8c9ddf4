/- strings.Repeat at this program: the contract of the shelf, laid at its numbers. SquashBack, walked by hand. -/
import Derived.Shelf.Strings.Repeat
import Derived.Test.YtefhcgnamfnkbaaDoorProg
import Derived.Test.YtefhcgnamfnkbaaDoorSyg
import Derived.Test.YtefhcgnamfnkbaaDoorSyf
import Derived.Test.YtefhcgnamfnkbaaDoorSyh
namespace Go.Proofs
open Go.Shelf
def Tryd.lays105_ren : Go.Shelf.Ren := ⟨fun | 105 => 12 | 212 => 35 | 99 => 36 | 165 => 37 | 166 => 38 | 170 => 39 | 169 => 40 | 263 => 80 | 264 => 81 | 206 => 82 | 240 => 83 | 241 => 84 | 276 => 112 | 277 => 113 | n => n, fun | 9 => 9 | 3 => 3 | 4 => 4 | 20 => 20 | 0 => 0 | 46 => 30 | 109 => 79 | 5 => 5 | 72 => 84 | 76 => 88 | 51 => 146 | 146 => 147 | 53 => 149 | 148 => 150 | 70 => 82 | 37 => 29 | 75 => 87 | 127 => 152 | 164 => 173 | 80 => 91 | n => n, fun | n => n⟩
theorem Tryd.lays105 : Go.Proofs.Lays.n105 Tryd.prog Tryd.lays105_ren := {
  mixed := by kernel_rfl
  f99 := Tryd.func36.trans (congrArg some (by kernel_rfl))
  f105 := Tryd.func12.trans (congrArg some (by kernel_rfl))
  f165 := Tryd.func37.trans (congrArg some (by kernel_rfl))
  f166 := Tryd.func38.trans (congrArg some (by kernel_rfl))
  f169 := Tryd.func40.trans (congrArg some (by kernel_rfl))
  f170 := Tryd.func39.trans (congrArg some (by kernel_rfl))
  f206 := Tryd.func82.trans (congrArg some (by kernel_rfl))
  f212 := Tryd.func35.trans (congrArg some (by kernel_rfl))
  f240 := Tryd.func83.trans (congrArg some (by kernel_rfl))
  f241 := Tryd.func84.trans (congrArg some (by kernel_rfl))
  f263 := Tryd.func80.trans (congrArg some (by kernel_rfl))
  f264 := Tryd.func81.trans (congrArg some (by kernel_rfl))
  f276 := Tryd.func112.trans (congrArg some (by kernel_rfl))
  f277 := Tryd.func113.trans (congrArg some (by kernel_rfl))
  t0 := Tryd.underlying0
  a0 := Tryd.isAgg0
  z0 := Tryd.sizeOf0
  v0 := Tryd.zeroValue0
  t3 := Tryd.underlying3
  a3 := Tryd.isAgg3
  z3 := Tryd.sizeOf3
  v3 := Tryd.zeroValue3
  t4 := Tryd.underlying4
  a4 := Tryd.isAgg4
  z4 := Tryd.sizeOf4
  v4 := Tryd.zeroValue4
  t5 := Tryd.underlying5
  a5 := Tryd.isAgg5
  z5 := Tryd.sizeOf5
  v5 := Tryd.zeroValue5
  t9 := Tryd.underlying9
  a9 := Tryd.isAgg9
  z9 := Tryd.sizeOf9
  v9 := Tryd.zeroValue9
  t20 := Tryd.underlying20
  a20 := Tryd.isAgg20
  z20 := Tryd.sizeOf20
  v20 := Tryd.zeroValue20
  t37 := Tryd.underlying29
  a37 := Tryd.isAgg29
  z37 := Tryd.sizeOf29
  v37 := Tryd.zeroValue29
  t46 := Tryd.underlying30
  a46 := Tryd.isAgg30
  z46 := Tryd.sizeOf30
  v46 := Tryd.zeroValue30
  t51 := Tryd.underlying146
  a51 := Tryd.isAgg146
  z51 := Tryd.sizeOf146
  v51 := Tryd.zeroValue146
  t53 := Tryd.underlying149
  a53 := Tryd.isAgg149
  z53 := Tryd.sizeOf149
  v53 := Tryd.zeroValue149
  t70 := Tryd.underlying82
  a70 := Tryd.isAgg82
  z70 := Tryd.sizeOf82
  v70 := Tryd.zeroValue82
  t72 := Tryd.underlying84
  a72 := Tryd.isAgg84
  z72 := Tryd.sizeOf84
  v72 := Tryd.zeroValue84
  t75 := Tryd.underlying87
  a75 := Tryd.isAgg87
  z75 := Tryd.sizeOf87
  v75 := Tryd.zeroValue87
  t76 := Tryd.underlying88
  a76 := Tryd.isAgg88
  z76 := Tryd.sizeOf88
  v76 := Tryd.zeroValue88
  t109 := Tryd.underlying79
  a109 := Tryd.isAgg79
  z109 := Tryd.sizeOf79
  v109 := Tryd.zeroValue79
  t127 := Tryd.underlying152
  a127 := Tryd.isAgg152
  z127 := Tryd.sizeOf152
  v127 := Tryd.zeroValue152
  t146 := Tryd.underlying147
  a146 := Tryd.isAgg147
  z146 := Tryd.sizeOf147
  v146 := Tryd.zeroValue147
  t148 := Tryd.underlying150
  a148 := Tryd.isAgg150
  z148 := Tryd.sizeOf150
  v148 := Tryd.zeroValue150
  t164 := Tryd.underlying173
  a164 := Tryd.isAgg173
  z164 := Tryd.sizeOf173
  v164 := Tryd.zeroValue173 }
theorem Tryd.Builder_Extra_105 : Builder.Extra Tryd.prog Tryd.lays105_ren := {
  sizeBuilder := by kernel_rfl
  liesBuilder := by kernel_rfl
  t5 := Tryd.underlying5
  a5 := Tryd.isAgg5
  z5 := Tryd.sizeOf5
  v5 := Tryd.zeroValue5
  infoByte := by kernel_rfl
  cellsByte := by kernel_rfl
  sizeByte := by kernel_rfl
  neB5 := by decide }
open Go.RowKit Go.Lib in
/-- **strings.Repeat: count ≥ 0, the result within one allocation: count copies of s.** (LAID: no walk: one application.) -/
theorem Tryd.strings_Repeat (s : ByteArray) (c : Nat) (w : World) (hc : c ≤ 9223372036854775807) (hlen : s.size * c ≤ 140737488355328) :
    Calls Tryd.prog 12 #[.string s, .int .i64 c] w fun e w' => e = .returned (.string ⟨(Lib.repeatL s.data.toList c).toArray⟩) ∧ Below w.heap.size w w' := Any.strings_Repeat Tryd.lays105 Tryd.Builder_Extra_105 s c w hc hlen
end Go.Proofs
namespace Go.Proofs.YtefhcgnamfnkbaaDoor.Pr
open Go.RowKit
theorem repeat_calls (s : ByteArray) (w : World) (hs : s.size ≤ 200) :
    Calls Tryd.prog 12 #[.string s, .int .i64 3] w fun r w' => ∃ t : ByteArray, r = .returned (.string t) ∧ t.size ≤ 600 ∧ Below w.heap.size w w' := by
  refine (Tryd.strings_Repeat s 3 w (by omega) (by omega)).mono ?_
  rintro r w' ⟨rfl, hb⟩
  refine ⟨_, rfl, ?_, hb⟩
  show (Lib.repeatL s.data.toList 3).toArray.size ≤ 600
  rw [List.size_toArray, Lib.repeatL_length, Array.length_toList]
  show 3 * s.size ≤ 600
  omega
end Go.Proofs.YtefhcgnamfnkbaaDoor.Pr
namespace Go.Proofs.YtefhcgnamfnkbaaDoor.Pr
open Go.RowKit Go.Proofs.YtefhcgnamfnkbaaDoorW.PrintWords Go.Proofs.YtefhcgnamfnkbaaDoorW.PrintLast Go.Proofs.YtefhcgnamfnkbaaDoorW.PrintMore
open Go.Proofs.YtefhcgnamfnkbaaDoor.Sb
set_option linter.unusedVariables false
set_option linter.unusedSimpArgs false
set_option maxHeartbeats 2000000 in
set_option maxRecDepth 100000 in
theorem mod_calls (a n : Int) (w : World) (h0 : 0 < n) (hn : n ≤ 1000000) :
    Calls Tryd.prog 13 #[.int .i64 a, .int .i64 n] w fun r w' => ∃ k : Nat, r = .returned (.int .i64 (k : Int)) ∧ (k : Int) < n ∧ Below w.heap.size w w' := by
  have q : n ≠ 0 := by omega
  have c3b0 : (n == 0) = false := beq_eq_false_iff_ne.mpr q
  have h1 := Int.tmod_lt_of_pos a h0
  have h2 := Int.lt_tmod_of_pos a h0
  have e : wrap64 (Int.tmod a n + n) = Int.tmod a n + n := by unfold wrap64; omega
  have h3 : 0 ≤ Int.tmod (Int.tmod a n + n) n := Int.tmod_nonneg _ (by omega)
  have h4 := Int.tmod_lt_of_pos (Int.tmod a n + n) h0
  obtain ⟨k, hk⟩ := Int.eq_ofNat_of_zero_le h3
  clear h3
  go_enter Tryd.func13, Tryd.ntmps13
  go_wp2
  go_ret
  exact ⟨k, by rw [← hk]; first | rfl | (rw [e]; rfl) | (rw [e]), by omega, climb⟩
theorem rep_all (x : UInt8) : ∀ (c : Nat) (y : UInt8), y ∈ Lib.repeatL [x] c → y = x
  | 0, y, h => by simp [Lib.repeatL] at h
  | c + 1, y, h => by
    rcases List.mem_append.1 (show y ∈ [x] ++ Lib.repeatL [x] c from h) with h | h
    · exact List.mem_singleton.1 h
    · exact rep_all x c y h
theorem rep_mono (x : UInt8) (c : Nat) : Mono1 ⟨(Lib.repeatL [x] c).toArray⟩ := by
  have h : ∀ a, a < (⟨(Lib.repeatL [x] c).toArray⟩ : ByteArray).size → byF ⟨(Lib.repeatL [x] c).toArray⟩ a = wrap64 ((x.toNat : Nat) : Int) := fun a ha => by
    unfold byF
    have ha' : a < (Lib.repeatL [x] c).toArray.size := ha
    rw [← Array.getElem_eq_getD (h := ha'), List.getElem_toArray, rep_all x c _ (List.getElem_mem _)]
  exact fun a b ha hb => (h a ha).trans (h b hb).symm
theorem rep_x (k : Nat) (w : World) (hk : k < 3000) :
    Calls Tryd.prog 12 #[.string ⟨#[122]⟩, .int .i64 (1000 + (k : Int))] w fun r w' => ∃ Z : ByteArray, r = .returned (.string Z) ∧ Z.size = 1000 + k ∧ Mono1 Z ∧ Below w.heap.size w w' := by
  have e : (1000 + (k : Int)) = ((1000 + k : Nat) : Int) := by omega
  have hsz : (⟨#[122]⟩ : ByteArray).size = 1 := rfl
  rw [e]
  refine (Tryd.strings_Repeat ⟨#[122]⟩ (1000 + k) w (by omega) (by rw [hsz]; omega)).mono ?_
  rintro r w' ⟨rfl, hb⟩
  refine ⟨_, rfl, ?_, rep_mono 122 (1000 + k), hb⟩
  show (Lib.repeatL [122] (1000 + k)).toArray.size = _
  rw [List.size_toArray, Lib.repeatL_length, List.length_singleton, Nat.mul_one]
set_option maxHeartbeats 8000000 in
set_option maxRecDepth 100000 in
theorem back_walk (s : ByteArray) (z : Int) (w : World) (hb : Gb w) (hg : 1 ≤ w.heap.size) :
    Calls Tryd.prog 3 #[.string s, .int .i64 z] w fun r w' => r = .returned (.bool true) ∧ Below w.heap.size w w' := by
  have HG := Aside0.mk hb
  clear hb
  obtain ⟨m, hm⟩ : ∃ m : Nat, (m : Int) = min (s.size : Int) 3000 := ⟨(min (s.size : Int) 3000).toNat, by omega⟩
  have hm1 : m ≤ s.size := by omega
  have hm2 : m ≤ 3000 := by omega
  go_enter Tryd.func3, Tryd.ntmps3
  go_upto_region 2 with (fail)
  rw [← hm, Int.toNat_natCast]
  obtain ⟨X, hX⟩ : ∃ X, X = s.extract 0 m := ⟨_, rfl⟩
  have hx0 : X.size ≤ 4000 := by rw [hX]; simp; omega
  rw [← hX]
  clear hX hm hm1 hm2
  obtain ⟨p, hp⟩ : ∃ p, p = packF X := ⟨_, rfl⟩
  have hps : p.size ≤ X.size + 5 := by rw [hp]; exact pack_le hx0
  have PX := Aside0.mk (fun w h1 h2 => hp ▸ pack_x X w hx0 h1 h2)
  have UX := Aside0.mk (fun w h1 h2 => hp ▸ unpack_pack X w hx0 h1 h2)
  clear hp
  have B := Aside0.mk (show Below w.heap.size w w from Below.refl _ _)
  go_wp2_with (first
    | (go_at_call 10; (with_reducible refine (PX.out _ (HG.out.below hg (bl B.out)) (by have := B.out.size; first | omega | (simp; omega))).mono ?_); rintro _ w1 ⟨rfl, hb⟩; have B_ := Aside0.mk (below_step (bl B.out) hb); clear B hb; have B := B_; clear B_)
    | (go_at_call 11; (with_reducible refine (UX.out _ (HG.out.below hg (bl B.out)) (by have := B.out.size; first | omega | (simp; omega))).mono ?_); rintro _ w1 ⟨rfl, hb⟩; have B_ := Aside0.mk (below_step (bl B.out) hb); clear B hb; have B := B_; clear B_)
    | (go_at_call 13; (with_reducible refine (mod_calls z 3000 _ (by omega) (by omega)).mono ?_); rintro _ w1 ⟨k, rfl, hk, hb⟩; have B_ := Aside0.mk (below_step (bl B.out) hb); clear B hb; have B := B_; clear B_)
    | (go_at_call 12; (with_reducible refine (rep_x k _ (by omega)).mono ?_); rintro _ w1 ⟨Z, rfl, hZ, hM, hb⟩; have B_ := Aside0.mk (below_step (bl B.out) hb); clear B hb; have B := B_; clear B_
       have hz4 : 4 * (packF Z).size < Z.size := quarter hM (by omega) (by omega)
       obtain ⟨q, hq⟩ : ∃ q, q = packF Z := ⟨_, rfl⟩
       have PZ := Aside0.mk (fun w h1 h2 => hq ▸ pack_x Z w (by omega) h1 h2)
       have UZ := Aside0.mk (fun w h1 h2 => hq ▸ unpack_pack Z w (by omega) h1 h2)
       rw [← hq] at hz4
       clear hq hM)
    | (go_at_call 10; (with_reducible refine (PZ.out _ (HG.out.below hg (bl B.out)) (by have := B.out.size; first | omega | (simp; omega))).mono ?_); rintro _ w1 ⟨rfl, hb⟩; have B_ := Aside0.mk (below_step (bl B.out) hb); clear B hb; have B := B_; clear B_)
    | (go_at_call 11; (with_reducible refine (UZ.out _ (HG.out.below hg (bl B.out)) (by have := B.out.size; first | omega | (simp; omega))).mono ?_); rintro _ w1 ⟨rfl, hb⟩; have B_ := Aside0.mk (below_step (bl B.out) hb); clear B hb; have B := B_; clear B_))
  go_ret
  exact ⟨rfl, bl B.out⟩
end Go.Proofs.YtefhcgnamfnkbaaDoor.Pr
