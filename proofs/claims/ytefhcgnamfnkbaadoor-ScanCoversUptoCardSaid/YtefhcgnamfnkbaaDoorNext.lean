/- fscan.next: the first token. -/
import Derived.Test.YtefhcgnamfnkbaaDoorScx3
import Derived.Test.YtefhcgnamfnkbaaDoorScx4
import Derived.Test.YtefhcgnamfnkbaaDoorGiven
namespace Go.Proofs.YtefhcgnamfnkbaaDoor.Pr
open Go.RowKit Go.Proofs.YtefhcgnamfnkbaaDoorW.PrintWords Go.Proofs.YtefhcgnamfnkbaaDoorW.PrintLast Go.Proofs.YtefhcgnamfnkbaaDoorW.PrintMore
theorem hasp_eq (s p : ByteArray) : strings_HasPrefix.f s p = some (p.data.toList.isPrefixOf s.data.toList) := by
  unfold strings_HasPrefix.f stringslite_HasPrefix.f
  have hs : s.data.toList.length = s.size := by rw [Array.length_toList]; rfl
  have hp : p.data.toList.length = p.size := by rw [Array.length_toList]; rfl
  by_cases h : (s.size : Int) ≥ (p.size : Int)
  · rw [if_pos h, if_pos (by omega), if_pos (by omega), Option.bind_some, ByteArray.toList_eq, ByteArray.toList_eq, Lib.extract_data]
    congr 1
    rw [Bool.eq_iff_iff, List.isPrefixOf_iff_prefix, List.prefix_iff_eq_take, beq_iff_eq, hp]
    simp only [Int.toNat_natCast, List.drop_zero]
    exact ⟨fun h => h.symm, fun h => h.symm⟩
  · rw [if_neg h, Option.bind_some]
    congr 1
    rw [Bool.eq_iff_iff, List.isPrefixOf_iff_prefix]
    constructor
    · intro h; cases h
    · intro h; have := h.length_le; omega
/-- The fault that stands first, or the sign alone. -/
def faultIn (l : List UInt8) : List (List UInt8) → Int × Int
  | [] => (8, 1)
  | f :: r => if f.isPrefixOf l = true then (3, (f.length : Int)) else faultIn l r
def faults : List (List UInt8) := [[35, 68, 73, 86, 47, 48, 33], [35, 86, 65, 76, 85, 69, 33], [35, 78, 65, 77, 69, 63], [35, 78, 85, 77, 33], [35, 78, 47, 65], [35, 83, 80, 73, 76, 76, 33], [35, 67, 89, 67, 76, 69, 33]]
def opsL : List UInt8 := [43, 45, 42, 47, 94, 38, 61, 60, 62, 37, 40, 41, 44, 59, 123, 125]
def fscan_next.f (k : Nat) (a0 : ByteArray) : Option (Int × Int) :=
  if h : 0 < a0.size then
    if isS a0[0] = true then (fscan_run_86.f a0).bind fun n => some (0, n)
    else if a0[0] = 34 then (fscan_quoted.f k a0 34).bind fun n => some (2, n)
    else if a0[0] = 35 then (if ([35, 82, 69, 70, 33] : List UInt8).isPrefixOf a0.data.toList = true then some (4, 5) else some (faultIn a0.data.toList faults))
    else if a0[0] = 39 then (fscan_quoted.f k a0 39).bind fun n => if 0 < n then (fscan_sheeted.f k a0 n).bind fun m => some (4, m) else some (4, 0)
    else if isD a0[0] = true then (fscan_rows.f k a0).bind fun n => if 0 < n then some (4, n) else (fscan_number.f k a0).bind fun m => some (1, m)
    else if isL a0[0] = true ∨ a0[0] = 95 ∨ a0[0] = 36 then fscan_word.f k a0
    else if ([60, 61] : List UInt8).isPrefixOf a0.data.toList = true ∨ ([62, 61] : List UInt8).isPrefixOf a0.data.toList = true ∨ ([60, 62] : List UInt8).isPrefixOf a0.data.toList = true then some (8, 2)
    else if (0 : Int) ≤ Lib.indexByte opsL a0[0] then some (8, 1)
    else some (8, 0)
  else none
theorem signs (c : UInt8) : ((c.toNat : Int) == 32) = (c == 32) ∧ ((c.toNat : Int) == 9) = (c == 9) ∧ ((c.toNat : Int) == 34) = (c == 34) ∧ ((c.toNat : Int) == 35) = (c == 35) ∧ ((c.toNat : Int) == 39) = (c == 39) ∧ ((c.toNat : Int) == 95) = (c == 95) ∧ ((c.toNat : Int) == 36) = (c == 36) := by
  have : ∀ n : Fin 256, ((n.val : Int) == 32) = (UInt8.ofNat n.val == 32) ∧ ((n.val : Int) == 9) = (UInt8.ofNat n.val == 9) ∧ ((n.val : Int) == 34) = (UInt8.ofNat n.val == 34) ∧ ((n.val : Int) == 35) = (UInt8.ofNat n.val == 35) ∧ ((n.val : Int) == 39) = (UInt8.ofNat n.val == 39) ∧ ((n.val : Int) == 95) = (UInt8.ofNat n.val == 95) ∧ ((n.val : Int) == 36) = (UInt8.ofNat n.val == 36) := by decide +kernel
  have e := this ⟨c.toNat, UInt8.toNat_lt c⟩
  simpa only [UInt8.ofNat_toNat] using e
theorem fletter_isL (c : UInt8) : fscan_letter.f (c.toNat : Int) = some (isL c) := by
  have : ∀ n : Fin 256, fscan_letter.f (n.val : Int) = some (isL (UInt8.ofNat n.val)) := by decide +kernel
  have e := this ⟨c.toNat, UInt8.toNat_lt c⟩
  simpa only [UInt8.ofNat_toNat] using e
theorem index_b (c : UInt8) : strings_IndexByte.f ⟨#[43, 45, 42, 47, 94, 38, 61, 60, 62, 37, 40, 41, 44, 59, 123, 125]⟩ (c.toNat : Int) = some (Lib.indexByte opsL c) := by
  unfold strings_IndexByte.f
  have : ((c.toNat : Int)).toNat.toUInt8 = c := by rw [Int.toNat_natCast]; exact UInt8.ofNat_toNat
  rw [this]
  rfl
abbrev FV : Value := .agg #[.string ⟨#[35, 68, 73, 86, 47, 48, 33]⟩, .string ⟨#[35, 86, 65, 76, 85, 69, 33]⟩, .string ⟨#[35, 78, 65, 77, 69, 63]⟩, .string ⟨#[35, 78, 85, 77, 33]⟩, .string ⟨#[35, 78, 47, 65]⟩, .string ⟨#[35, 83, 80, 73, 76, 76, 33]⟩, .string ⟨#[35, 67, 89, 67, 76, 69, 33]⟩]
theorem idx0 (w : World) : Sem.run Tryd.prog (Instr.index 155 FV (.int .i64 0)) w = .ok (.string ⟨#[35, 68, 73, 86, 47, 48, 33]⟩) w := by kernel_rfl
theorem idx1 (w : World) : Sem.run Tryd.prog (Instr.index 155 FV (.int .i64 1)) w = .ok (.string ⟨#[35, 86, 65, 76, 85, 69, 33]⟩) w := by kernel_rfl
theorem idx2 (w : World) : Sem.run Tryd.prog (Instr.index 155 FV (.int .i64 2)) w = .ok (.string ⟨#[35, 78, 65, 77, 69, 63]⟩) w := by kernel_rfl
theorem idx3 (w : World) : Sem.run Tryd.prog (Instr.index 155 FV (.int .i64 3)) w = .ok (.string ⟨#[35, 78, 85, 77, 33]⟩) w := by kernel_rfl
theorem idx4 (w : World) : Sem.run Tryd.prog (Instr.index 155 FV (.int .i64 4)) w = .ok (.string ⟨#[35, 78, 47, 65]⟩) w := by kernel_rfl
theorem idx5 (w : World) : Sem.run Tryd.prog (Instr.index 155 FV (.int .i64 5)) w = .ok (.string ⟨#[35, 83, 80, 73, 76, 76, 33]⟩) w := by kernel_rfl
theorem idx6 (w : World) : Sem.run Tryd.prog (Instr.index 155 FV (.int .i64 6)) w = .ok (.string ⟨#[35, 67, 89, 67, 76, 69, 33]⟩) w := by kernel_rfl
set_option maxHeartbeats 4000000 in
set_option maxRecDepth 100000 in
theorem fscan_next.calls (k : Nat) (a0 : ByteArray) (r1 r2 : Int) (w : World) (hGl : Gl w) (h : fscan_next.f k a0 = some (r1, r2)) :
    Calls Tryd.prog 41 #[.string a0] w fun e w' => e = .returned (.tuple #[.int .i64 r1, .int .i64 r2]) ∧ Below w.heap.size w w' := by
  unfold fscan_next.f at h
  by_cases h0 : 0 < a0.size
  case neg => rw [dif_neg h0] at h; cases h
  rw [dif_pos h0] at h
  have p1 : (0 : Int) < (a0.size : Int) := by omega
  obtain ⟨s32, s9, s34, s35, s39, s95, s36⟩ := signs a0[0]

  by_cases b1 : isS a0[0] = true
  · rw [if_pos b1] at h
    obtain ⟨n, hn, h⟩ := Option.bind_eq_some_iff.1 h
    simp only [Option.some.injEq, Prod.mk.injEq] at h
    obtain ⟨rfl, rfl⟩ := h
    have HN := Aside0.mk hn
    clear hn
    by_cases c32 : a0[0] = 32
    · skip
      have e32 : (((a0[0]).toNat : Int) == 32) = true := by rw [s32]; exact beq_iff_eq.2 c32
      clear s32 s9 s34 s35 s39 s95 s36 b1 c32
      go_enter Tryd.func41, Tryd.ntmps41
      go_wp2_with fail
      refine (fscan_run_86.calls _ _ _ (by repeat (first | exact hGl | apply gl_drewN | apply gl_drew)) HN.out).mono ?_
      rintro e w' ⟨rfl, ⟨nd, rfl⟩⟩
      go_wp2
      go_ret2
      exact ⟨by first | rfl | (simp; done) | (simp [*]; done), pw_below_drewN (Below.refl _ _) _⟩
    · have c9 : a0[0] = 9 := by simpa [isS, c32] using b1
      have e32 : (((a0[0]).toNat : Int) == 32) = false := by rw [s32]; exact beq_eq_false_iff_ne.2 c32
      have e9 : (((a0[0]).toNat : Int) == 9) = true := by rw [s9]; exact beq_iff_eq.2 c9
      clear s32 s9 s34 s35 s39 s95 s36 b1 c32 c9
      go_enter Tryd.func41, Tryd.ntmps41
      go_wp2_with fail
      refine (fscan_run_86.calls _ _ _ (by repeat (first | exact hGl | apply gl_drewN | apply gl_drew)) HN.out).mono ?_
      rintro e w' ⟨rfl, ⟨nd, rfl⟩⟩
      go_wp2
      go_ret2
      exact ⟨by first | rfl | (simp; done) | (simp [*]; done), pw_below_drewN (Below.refl _ _) _⟩
  rw [if_neg b1] at h
  have c32 : ¬ a0[0] = 32 := fun e => b1 (by unfold isS; rw [e]; decide)
  have c9 : ¬ a0[0] = 9 := fun e => b1 (by unfold isS; rw [e]; decide)
  have e32 : (((a0[0]).toNat : Int) == 32) = false := by rw [s32]; exact beq_eq_false_iff_ne.2 c32
  have e9 : (((a0[0]).toNat : Int) == 9) = false := by rw [s9]; exact beq_eq_false_iff_ne.2 c9
  clear b1 c32 c9 s32 s9
  by_cases c34 : a0[0] = 34
  · rw [if_pos c34] at h
    obtain ⟨n, hn, h⟩ := Option.bind_eq_some_iff.1 h
    simp only [Option.some.injEq, Prod.mk.injEq] at h
    obtain ⟨rfl, rfl⟩ := h
    have hx : ((a0[0]).toNat : Int) = 34 := by rw [c34]; rfl
    rw [← hx] at hn
    have HN := Aside0.mk hn
    have e34 : (((a0[0]).toNat : Int) == 34) = true := by rw [s34]; exact beq_iff_eq.2 c34
    clear hn hx c34 s34 s35 s39 s95 s36
    go_enter Tryd.func41, Tryd.ntmps41
    go_wp2_with fail
    refine (fscan_quoted.calls k _ _ _ _ (by repeat (first | exact hGl | apply gl_drewN | apply gl_drew)) HN.out).mono ?_
    rintro e w' ⟨rfl, ⟨nd, rfl⟩⟩
    go_wp2
    go_ret2
    exact ⟨by first | rfl | (simp; done) | (simp [*]; done), pw_below_drewN (Below.refl _ _) _⟩
  rw [if_neg c34] at h
  have e34 : (((a0[0]).toNat : Int) == 34) = false := by rw [s34]; exact beq_eq_false_iff_ne.2 c34
  clear c34 s34
  by_cases c35 : a0[0] = 35
  · rw [if_pos c35] at h
    have e35 : (((a0[0]).toNat : Int) == 35) = true := by rw [s35]; exact beq_iff_eq.2 c35
    clear c35 s35 s39 s95 s36
    by_cases b2 : ([35, 82, 69, 70, 33] : List UInt8).isPrefixOf a0.data.toList = true
    · rw [if_pos b2] at h
      simp only [Option.some.injEq, Prod.mk.injEq] at h
      obtain ⟨rfl, rfl⟩ := h
      have HP := Aside0.mk (show strings_HasPrefix.f a0 ⟨#[35, 82, 69, 70, 33]⟩ = some true by rw [hasp_eq]; exact congrArg some b2)
      clear b2
      go_enter Tryd.func41, Tryd.ntmps41
      go_wp2_with fail
      refine (strings_HasPrefix.calls _ _ _ _ (by repeat (first | exact hGl | apply gl_drewN | apply gl_drew)) HP.out).mono ?_
      rintro e w' ⟨rfl, ⟨nd, rfl⟩⟩
      go_wp2
      go_ret2
      exact ⟨by first | rfl | (simp; done) | (simp [*]; done), pw_below_drewN (Below.refl _ _) _⟩
    · rw [if_neg b2] at h
      have HP := Aside0.mk (show strings_HasPrefix.f a0 ⟨#[35, 82, 69, 70, 33]⟩ = some false by rw [hasp_eq]; exact congrArg some (Bool.eq_false_iff.2 b2))
      have HH := Aside0.mk (Option.some.inj h)
      clear b2 h
      go_enter Tryd.func41, Tryd.ntmps41
      go_wp2_with fail
      refine (strings_HasPrefix.calls _ _ _ _ (by repeat (first | exact hGl | apply gl_drewN | apply gl_drew)) HP.out).mono ?_
      rintro e w' ⟨rfl, ⟨nd, rfl⟩⟩
      go_wp2
      go_loopw [32] (fun v32 wr => ∃ (n : Nat), v32 = .int .i64 (n : Int) ∧ n ≤ 7 ∧ Aside0 (faultIn a0.data.toList (faults.drop n) = (r1, r2)) ∧ Aside0 (∃ q, wr = w.drewN q)) (fun v32 _ => 7 - intNat v32)
      case atStart => exact ⟨0, rfl, by omega, ⟨HH.out⟩, ⟨_, rfl⟩⟩
      case round =>
        obtain ⟨n, rfl, hn, HF, HQ⟩ := hrel
        have hq := HQ.out
        obtain ⟨q, rfl⟩ := hq
        clear HQ HH
        obtain rfl | rfl | rfl | rfl | rfl | rfl | rfl | rfl : n = 0 ∨ n = 1 ∨ n = 2 ∨ n = 3 ∨ n = 4 ∨ n = 5 ∨ n = 6 ∨ n = 7 := by omega
        · by_cases b3 : ([35, 68, 73, 86, 47, 48, 33] : List UInt8).isPrefixOf a0.data.toList = true
          · have hf : (3, (([35, 68, 73, 86, 47, 48, 33] : List UInt8).length : Int)) = (r1, r2) := by have hf := HF.out; simp only [faults, List.drop_zero, faultIn] at hf; rw [if_pos b3] at hf; exact hf
            simp only [Prod.mk.injEq] at hf
            obtain ⟨rfl, rfl⟩ := hf
            have HP := Aside0.mk (show strings_HasPrefix.f a0 ⟨#[35, 68, 73, 86, 47, 48, 33]⟩ = some true by rw [hasp_eq]; exact congrArg some b3)
            clear b3 HF
            go_wp2_with fail
            rw [idx0]
            go_wp2_with fail
            refine (strings_HasPrefix.calls _ _ _ _ (by repeat (first | exact hGl | apply gl_drewN | apply gl_drew)) HP.out).mono ?_
            rintro e w' ⟨rfl, ⟨nd, rfl⟩⟩
            go_wp2
            go_ret2
            exact ⟨by first | rfl | (simp; done) | (simp [*]; done), pw_below_drewN (Below.refl _ _) _⟩
          · have hf : faultIn a0.data.toList (faults.drop 1) = (r1, r2) := by have hf := HF.out; simp only [faults, List.drop_succ_cons, List.drop_zero, faultIn] at hf ⊢; rw [if_neg b3] at hf; exact hf
            have HF2 := Aside0.mk hf
            have HP := Aside0.mk (show strings_HasPrefix.f a0 ⟨#[35, 68, 73, 86, 47, 48, 33]⟩ = some false by rw [hasp_eq]; exact congrArg some (Bool.eq_false_iff.2 b3))
            clear b3 HF hf
            go_wp2_with fail
            rw [idx0]
            go_wp2_with fail
            refine (strings_HasPrefix.calls _ _ _ _ (by repeat (first | exact hGl | apply gl_drewN | apply gl_drew)) HP.out).mono ?_
            rintro e w' ⟨rfl, ⟨nd, rfl⟩⟩
            go_wp2
            go_roundw
            case rel => exact ⟨1, rfl, by omega, HF2, ⟨_, rfl⟩⟩
            case measure => simp [intNat]
        · by_cases b3 : ([35, 86, 65, 76, 85, 69, 33] : List UInt8).isPrefixOf a0.data.toList = true
          · have hf : (3, (([35, 86, 65, 76, 85, 69, 33] : List UInt8).length : Int)) = (r1, r2) := by have hf := HF.out; simp only [faults, List.drop_succ_cons, List.drop_zero, faultIn] at hf; rw [if_pos b3] at hf; exact hf
            simp only [Prod.mk.injEq] at hf
            obtain ⟨rfl, rfl⟩ := hf
            have HP := Aside0.mk (show strings_HasPrefix.f a0 ⟨#[35, 86, 65, 76, 85, 69, 33]⟩ = some true by rw [hasp_eq]; exact congrArg some b3)
            clear b3 HF
            go_wp2_with fail
            rw [idx1]
            go_wp2_with fail
            refine (strings_HasPrefix.calls _ _ _ _ (by repeat (first | exact hGl | apply gl_drewN | apply gl_drew)) HP.out).mono ?_
            rintro e w' ⟨rfl, ⟨nd, rfl⟩⟩
            go_wp2
            go_ret2
            exact ⟨by first | rfl | (simp; done) | (simp [*]; done), pw_below_drewN (Below.refl _ _) _⟩
          · have hf : faultIn a0.data.toList (faults.drop 2) = (r1, r2) := by have hf := HF.out; simp only [faults, List.drop_succ_cons, List.drop_zero, faultIn] at hf ⊢; rw [if_neg b3] at hf; exact hf
            have HF2 := Aside0.mk hf
            have HP := Aside0.mk (show strings_HasPrefix.f a0 ⟨#[35, 86, 65, 76, 85, 69, 33]⟩ = some false by rw [hasp_eq]; exact congrArg some (Bool.eq_false_iff.2 b3))
            clear b3 HF hf
            go_wp2_with fail
            rw [idx1]
            go_wp2_with fail
            refine (strings_HasPrefix.calls _ _ _ _ (by repeat (first | exact hGl | apply gl_drewN | apply gl_drew)) HP.out).mono ?_
            rintro e w' ⟨rfl, ⟨nd, rfl⟩⟩
            go_wp2
            go_roundw
            case rel => exact ⟨2, rfl, by omega, HF2, ⟨_, rfl⟩⟩
            case measure => simp [intNat]
        · by_cases b3 : ([35, 78, 65, 77, 69, 63] : List UInt8).isPrefixOf a0.data.toList = true
          · have hf : (3, (([35, 78, 65, 77, 69, 63] : List UInt8).length : Int)) = (r1, r2) := by have hf := HF.out; simp only [faults, List.drop_succ_cons, List.drop_zero, faultIn] at hf; rw [if_pos b3] at hf; exact hf
            simp only [Prod.mk.injEq] at hf
            obtain ⟨rfl, rfl⟩ := hf
            have HP := Aside0.mk (show strings_HasPrefix.f a0 ⟨#[35, 78, 65, 77, 69, 63]⟩ = some true by rw [hasp_eq]; exact congrArg some b3)
            clear b3 HF
            go_wp2_with fail
            rw [idx2]
            go_wp2_with fail
            refine (strings_HasPrefix.calls _ _ _ _ (by repeat (first | exact hGl | apply gl_drewN | apply gl_drew)) HP.out).mono ?_
            rintro e w' ⟨rfl, ⟨nd, rfl⟩⟩
            go_wp2
            go_ret2
            exact ⟨by first | rfl | (simp; done) | (simp [*]; done), pw_below_drewN (Below.refl _ _) _⟩
          · have hf : faultIn a0.data.toList (faults.drop 3) = (r1, r2) := by have hf := HF.out; simp only [faults, List.drop_succ_cons, List.drop_zero, faultIn] at hf ⊢; rw [if_neg b3] at hf; exact hf
            have HF2 := Aside0.mk hf
            have HP := Aside0.mk (show strings_HasPrefix.f a0 ⟨#[35, 78, 65, 77, 69, 63]⟩ = some false by rw [hasp_eq]; exact congrArg some (Bool.eq_false_iff.2 b3))
            clear b3 HF hf
            go_wp2_with fail
            rw [idx2]
            go_wp2_with fail
            refine (strings_HasPrefix.calls _ _ _ _ (by repeat (first | exact hGl | apply gl_drewN | apply gl_drew)) HP.out).mono ?_
            rintro e w' ⟨rfl, ⟨nd, rfl⟩⟩
            go_wp2
            go_roundw
            case rel => exact ⟨3, rfl, by omega, HF2, ⟨_, rfl⟩⟩
            case measure => simp [intNat]
        · by_cases b3 : ([35, 78, 85, 77, 33] : List UInt8).isPrefixOf a0.data.toList = true
          · have hf : (3, (([35, 78, 85, 77, 33] : List UInt8).length : Int)) = (r1, r2) := by have hf := HF.out; simp only [faults, List.drop_succ_cons, List.drop_zero, faultIn] at hf; rw [if_pos b3] at hf; exact hf
            simp only [Prod.mk.injEq] at hf
            obtain ⟨rfl, rfl⟩ := hf
            have HP := Aside0.mk (show strings_HasPrefix.f a0 ⟨#[35, 78, 85, 77, 33]⟩ = some true by rw [hasp_eq]; exact congrArg some b3)
            clear b3 HF
            go_wp2_with fail
            rw [idx3]
            go_wp2_with fail
            refine (strings_HasPrefix.calls _ _ _ _ (by repeat (first | exact hGl | apply gl_drewN | apply gl_drew)) HP.out).mono ?_
            rintro e w' ⟨rfl, ⟨nd, rfl⟩⟩
            go_wp2
            go_ret2
            exact ⟨by first | rfl | (simp; done) | (simp [*]; done), pw_below_drewN (Below.refl _ _) _⟩
          · have hf : faultIn a0.data.toList (faults.drop 4) = (r1, r2) := by have hf := HF.out; simp only [faults, List.drop_succ_cons, List.drop_zero, faultIn] at hf ⊢; rw [if_neg b3] at hf; exact hf
            have HF2 := Aside0.mk hf
            have HP := Aside0.mk (show strings_HasPrefix.f a0 ⟨#[35, 78, 85, 77, 33]⟩ = some false by rw [hasp_eq]; exact congrArg some (Bool.eq_false_iff.2 b3))
            clear b3 HF hf
            go_wp2_with fail
            rw [idx3]
            go_wp2_with fail
            refine (strings_HasPrefix.calls _ _ _ _ (by repeat (first | exact hGl | apply gl_drewN | apply gl_drew)) HP.out).mono ?_
            rintro e w' ⟨rfl, ⟨nd, rfl⟩⟩
            go_wp2
            go_roundw
            case rel => exact ⟨4, rfl, by omega, HF2, ⟨_, rfl⟩⟩
            case measure => simp [intNat]
        · by_cases b3 : ([35, 78, 47, 65] : List UInt8).isPrefixOf a0.data.toList = true
          · have hf : (3, (([35, 78, 47, 65] : List UInt8).length : Int)) = (r1, r2) := by have hf := HF.out; simp only [faults, List.drop_succ_cons, List.drop_zero, faultIn] at hf; rw [if_pos b3] at hf; exact hf
            simp only [Prod.mk.injEq] at hf
            obtain ⟨rfl, rfl⟩ := hf
            have HP := Aside0.mk (show strings_HasPrefix.f a0 ⟨#[35, 78, 47, 65]⟩ = some true by rw [hasp_eq]; exact congrArg some b3)
            clear b3 HF
            go_wp2_with fail
            rw [idx4]
            go_wp2_with fail
            refine (strings_HasPrefix.calls _ _ _ _ (by repeat (first | exact hGl | apply gl_drewN | apply gl_drew)) HP.out).mono ?_
            rintro e w' ⟨rfl, ⟨nd, rfl⟩⟩
            go_wp2
            go_ret2
            exact ⟨by first | rfl | (simp; done) | (simp [*]; done), pw_below_drewN (Below.refl _ _) _⟩
          · have hf : faultIn a0.data.toList (faults.drop 5) = (r1, r2) := by have hf := HF.out; simp only [faults, List.drop_succ_cons, List.drop_zero, faultIn] at hf ⊢; rw [if_neg b3] at hf; exact hf
            have HF2 := Aside0.mk hf
            have HP := Aside0.mk (show strings_HasPrefix.f a0 ⟨#[35, 78, 47, 65]⟩ = some false by rw [hasp_eq]; exact congrArg some (Bool.eq_false_iff.2 b3))
            clear b3 HF hf
            go_wp2_with fail
            rw [idx4]
            go_wp2_with fail
            refine (strings_HasPrefix.calls _ _ _ _ (by repeat (first | exact hGl | apply gl_drewN | apply gl_drew)) HP.out).mono ?_
            rintro e w' ⟨rfl, ⟨nd, rfl⟩⟩
            go_wp2
            go_roundw
            case rel => exact ⟨5, rfl, by omega, HF2, ⟨_, rfl⟩⟩
            case measure => simp [intNat]
        · by_cases b3 : ([35, 83, 80, 73, 76, 76, 33] : List UInt8).isPrefixOf a0.data.toList = true
          · have hf : (3, (([35, 83, 80, 73, 76, 76, 33] : List UInt8).length : Int)) = (r1, r2) := by have hf := HF.out; simp only [faults, List.drop_succ_cons, List.drop_zero, faultIn] at hf; rw [if_pos b3] at hf; exact hf
            simp only [Prod.mk.injEq] at hf
            obtain ⟨rfl, rfl⟩ := hf
            have HP := Aside0.mk (show strings_HasPrefix.f a0 ⟨#[35, 83, 80, 73, 76, 76, 33]⟩ = some true by rw [hasp_eq]; exact congrArg some b3)
            clear b3 HF
            go_wp2_with fail
            rw [idx5]
            go_wp2_with fail
            refine (strings_HasPrefix.calls _ _ _ _ (by repeat (first | exact hGl | apply gl_drewN | apply gl_drew)) HP.out).mono ?_
            rintro e w' ⟨rfl, ⟨nd, rfl⟩⟩
            go_wp2
            go_ret2
            exact ⟨by first | rfl | (simp; done) | (simp [*]; done), pw_below_drewN (Below.refl _ _) _⟩
          · have hf : faultIn a0.data.toList (faults.drop 6) = (r1, r2) := by have hf := HF.out; simp only [faults, List.drop_succ_cons, List.drop_zero, faultIn] at hf ⊢; rw [if_neg b3] at hf; exact hf
            have HF2 := Aside0.mk hf
            have HP := Aside0.mk (show strings_HasPrefix.f a0 ⟨#[35, 83, 80, 73, 76, 76, 33]⟩ = some false by rw [hasp_eq]; exact congrArg some (Bool.eq_false_iff.2 b3))
            clear b3 HF hf
            go_wp2_with fail
            rw [idx5]
            go_wp2_with fail
            refine (strings_HasPrefix.calls _ _ _ _ (by repeat (first | exact hGl | apply gl_drewN | apply gl_drew)) HP.out).mono ?_
            rintro e w' ⟨rfl, ⟨nd, rfl⟩⟩
            go_wp2
            go_roundw
            case rel => exact ⟨6, rfl, by omega, HF2, ⟨_, rfl⟩⟩
            case measure => simp [intNat]
        · by_cases b3 : ([35, 67, 89, 67, 76, 69, 33] : List UInt8).isPrefixOf a0.data.toList = true
          · have hf : (3, (([35, 67, 89, 67, 76, 69, 33] : List UInt8).length : Int)) = (r1, r2) := by have hf := HF.out; simp only [faults, List.drop_succ_cons, List.drop_zero, faultIn] at hf; rw [if_pos b3] at hf; exact hf
            simp only [Prod.mk.injEq] at hf
            obtain ⟨rfl, rfl⟩ := hf
            have HP := Aside0.mk (show strings_HasPrefix.f a0 ⟨#[35, 67, 89, 67, 76, 69, 33]⟩ = some true by rw [hasp_eq]; exact congrArg some b3)
            clear b3 HF
            go_wp2_with fail
            rw [idx6]
            go_wp2_with fail
            refine (strings_HasPrefix.calls _ _ _ _ (by repeat (first | exact hGl | apply gl_drewN | apply gl_drew)) HP.out).mono ?_
            rintro e w' ⟨rfl, ⟨nd, rfl⟩⟩
            go_wp2
            go_ret2
            exact ⟨by first | rfl | (simp; done) | (simp [*]; done), pw_below_drewN (Below.refl _ _) _⟩
          · have hf : faultIn a0.data.toList (faults.drop 7) = (r1, r2) := by have hf := HF.out; simp only [faults, List.drop_succ_cons, List.drop_zero, faultIn] at hf ⊢; rw [if_neg b3] at hf; exact hf
            have HF2 := Aside0.mk hf
            have HP := Aside0.mk (show strings_HasPrefix.f a0 ⟨#[35, 67, 89, 67, 76, 69, 33]⟩ = some false by rw [hasp_eq]; exact congrArg some (Bool.eq_false_iff.2 b3))
            clear b3 HF hf
            go_wp2_with fail
            rw [idx6]
            go_wp2_with fail
            refine (strings_HasPrefix.calls _ _ _ _ (by repeat (first | exact hGl | apply gl_drewN | apply gl_drew)) HP.out).mono ?_
            rintro e w' ⟨rfl, ⟨nd, rfl⟩⟩
            go_wp2
            go_roundw
            case rel => exact ⟨7, rfl, by omega, HF2, ⟨_, rfl⟩⟩
            case measure => simp [intNat]
        · have hf : ((8 : Int), (1 : Int)) = (r1, r2) := HF.out
          simp only [Prod.mk.injEq] at hf
          obtain ⟨rfl, rfl⟩ := hf
          go_wp2
          go_ret2
          exact ⟨by first | rfl | (simp; done) | (simp [*]; done), pw_below_drewN (Below.refl _ _) _⟩
  rw [if_neg c35] at h
  have e35 : (((a0[0]).toNat : Int) == 35) = false := by rw [s35]; exact beq_eq_false_iff_ne.2 c35
  clear c35 s35
  by_cases c39 : a0[0] = 39
  · rw [if_pos c39] at h
    obtain ⟨n, hn, h⟩ := Option.bind_eq_some_iff.1 h
    have hx : ((a0[0]).toNat : Int) = 39 := by rw [c39]; rfl
    rw [← hx] at hn
    have HN := Aside0.mk hn
    have e39 : (((a0[0]).toNat : Int) == 39) = true := by rw [s39]; exact beq_iff_eq.2 c39
    clear hn hx c39 s39 s95 s36
    by_cases b4 : 0 < n
    · rw [if_pos b4] at h
      obtain ⟨m, hm, h⟩ := Option.bind_eq_some_iff.1 h
      simp only [Option.some.injEq, Prod.mk.injEq] at h
      obtain ⟨rfl, rfl⟩ := h
      have HM := Aside0.mk hm
      have d1 : decide (n > 0) = true := decide_eq_true b4
      have d2 : decide (0 < n) = true := decide_eq_true b4
      clear hm b4
      go_enter Tryd.func41, Tryd.ntmps41
      go_wp2_with fail
      refine (fscan_quoted.calls k _ _ _ _ (by repeat (first | exact hGl | apply gl_drewN | apply gl_drew)) HN.out).mono ?_
      rintro e w' ⟨rfl, ⟨nd, rfl⟩⟩
      go_wp2_with fail
      refine (fscan_sheeted.calls k _ _ _ _ (gl_drewN hGl _) HM.out).mono ?_
      rintro e w2 ⟨rfl, hb⟩
      go_wp2
      go_ret2
      exact ⟨by first | rfl | (simp; done) | (simp [*]; done), below_step (pw_below_drewN (Below.refl _ _) _) hb⟩
    · rw [if_neg b4] at h
      simp only [Option.some.injEq, Prod.mk.injEq] at h
      obtain ⟨rfl, rfl⟩ := h
      have d1 : decide (n > 0) = false := decide_eq_false b4
      have d2 : decide (0 < n) = false := decide_eq_false b4
      clear b4
      go_enter Tryd.func41, Tryd.ntmps41
      go_wp2_with fail
      refine (fscan_quoted.calls k _ _ _ _ (by repeat (first | exact hGl | apply gl_drewN | apply gl_drew)) HN.out).mono ?_
      rintro e w' ⟨rfl, ⟨nd, rfl⟩⟩
      go_wp2
      go_ret2
      exact ⟨by first | rfl | (simp; done) | (simp [*]; done), pw_below_drewN (Below.refl _ _) _⟩
  rw [if_neg c39] at h
  have e39 : (((a0[0]).toNat : Int) == 39) = false := by rw [s39]; exact beq_eq_false_iff_ne.2 c39
  clear c39 s39
  have HD := Aside0.mk (fdigit_isD a0[0])
  by_cases b5 : isD a0[0] = true
  · rw [if_pos b5] at h
    have HD1 := Aside0.mk ((fdigit_isD a0[0]).trans (congrArg some b5))
    clear b5 HD s95 s36
    obtain ⟨n, hn, h⟩ := Option.bind_eq_some_iff.1 h
    have HN := Aside0.mk hn
    clear hn
    by_cases b4 : 0 < n
    · rw [if_pos b4] at h
      simp only [Option.some.injEq, Prod.mk.injEq] at h
      obtain ⟨rfl, rfl⟩ := h
      have d1 : decide (n > 0) = true := decide_eq_true b4
      have d2 : decide (0 < n) = true := decide_eq_true b4
      clear b4
      go_enter Tryd.func41, Tryd.ntmps41
      go_wp2_with fail
      refine (fscan_digit.calls _ _ _ (by repeat (first | exact hGl | apply gl_drewN | apply gl_drew)) HD1.out).mono ?_
      rintro e w' ⟨rfl, ⟨nd, rfl⟩⟩
      go_wp2_with fail
      refine (fscan_rows.calls k _ _ _ (gl_drewN hGl _) HN.out).mono ?_
      rintro e w2 ⟨rfl, hb⟩
      go_wp2
      go_ret2
      exact ⟨by first | rfl | (simp; done) | (simp [*]; done), below_step (pw_below_drewN (Below.refl _ _) _) hb⟩
    · rw [if_neg b4] at h
      obtain ⟨m, hm, h⟩ := Option.bind_eq_some_iff.1 h
      simp only [Option.some.injEq, Prod.mk.injEq] at h
      obtain ⟨rfl, rfl⟩ := h
      have HM := Aside0.mk hm
      have d1 : decide (n > 0) = false := decide_eq_false b4
      have d2 : decide (0 < n) = false := decide_eq_false b4
      clear hm b4
      go_enter Tryd.func41, Tryd.ntmps41
      go_wp2_with fail
      refine (fscan_digit.calls _ _ _ (by repeat (first | exact hGl | apply gl_drewN | apply gl_drew)) HD1.out).mono ?_
      rintro e w' ⟨rfl, ⟨nd, rfl⟩⟩
      go_wp2_with fail
      refine (fscan_rows.calls k _ _ _ (gl_drewN hGl _) HN.out).mono ?_
      rintro e w2 ⟨rfl, hb⟩
      have HW := Aside0.mk (below_step (pw_below_drewN (Below.refl _ _) _) hb)
      clear hb
      go_wp2_with fail
      refine (fscan_number.calls k _ _ _ (gl_below hGl HW.out) HM.out).mono ?_
      rintro e w' ⟨rfl, ⟨nd, rfl⟩⟩
      go_wp2
      go_ret2
      exact ⟨by first | rfl | (simp; done) | (simp [*]; done), pw_below_drewN HW.out _⟩
  rw [if_neg b5] at h
  have HD1 := Aside0.mk ((fdigit_isD a0[0]).trans (congrArg some (Bool.eq_false_iff.2 b5)))
  clear b5 HD
  by_cases b6 : isL a0[0] = true ∨ a0[0] = 95 ∨ a0[0] = 36
  · rw [if_pos b6] at h
    have HM := Aside0.mk h
    clear h
    by_cases bl : isL a0[0] = true
    · have HL := Aside0.mk ((fletter_isL a0[0]).trans (congrArg some bl))
      clear bl b6 s95 s36
      go_enter Tryd.func41, Tryd.ntmps41
      go_wp2_with fail
      refine (fscan_digit.calls _ _ _ (by repeat (first | exact hGl | apply gl_drewN | apply gl_drew)) HD1.out).mono ?_
      rintro e w' ⟨rfl, ⟨nd, rfl⟩⟩
      go_wp2_with fail
      refine (fscan_letter.calls _ _ _ (by repeat (first | exact hGl | apply gl_drewN | apply gl_drew)) HL.out).mono ?_
      rintro e w' ⟨rfl, ⟨nd, rfl⟩⟩
      go_wp2_with fail
      refine (fscan_word.calls k _ _ _ _ (by repeat (first | exact hGl | apply gl_drewN | apply gl_drew)) HM.out).mono ?_
      rintro e w2 ⟨rfl, hb⟩
      go_wp2
      go_ret2
      exact ⟨by first | rfl | (simp; done) | (simp [*]; done), below_step (by repeat (first | exact Below.refl _ _ | apply pw_below_drewN)) hb⟩
    · have HL := Aside0.mk ((fletter_isL a0[0]).trans (congrArg some (Bool.eq_false_iff.2 bl)))
      by_cases c95 : a0[0] = 95
      · skip
        have e95 : (((a0[0]).toNat : Int) == 95) = true := by rw [s95]; exact beq_iff_eq.2 c95
        clear bl b6 c95 s95 s36
        go_enter Tryd.func41, Tryd.ntmps41
        go_wp2_with fail
        refine (fscan_digit.calls _ _ _ (by repeat (first | exact hGl | apply gl_drewN | apply gl_drew)) HD1.out).mono ?_
        rintro e w' ⟨rfl, ⟨nd, rfl⟩⟩
        go_wp2_with fail
        refine (fscan_letter.calls _ _ _ (by repeat (first | exact hGl | apply gl_drewN | apply gl_drew)) HL.out).mono ?_
        rintro e w' ⟨rfl, ⟨nd, rfl⟩⟩
        go_wp2_with fail
        refine (fscan_word.calls k _ _ _ _ (by repeat (first | exact hGl | apply gl_drewN | apply gl_drew)) HM.out).mono ?_
        rintro e w2 ⟨rfl, hb⟩
        go_wp2
        go_ret2
        exact ⟨by first | rfl | (simp; done) | (simp [*]; done), below_step (by repeat (first | exact Below.refl _ _ | apply pw_below_drewN)) hb⟩
      · have c36 : a0[0] = 36 := by simpa [bl, c95] using b6
        have e95 : (((a0[0]).toNat : Int) == 95) = false := by rw [s95]; exact beq_eq_false_iff_ne.2 c95
        have e36 : (((a0[0]).toNat : Int) == 36) = true := by rw [s36]; exact beq_iff_eq.2 c36
        clear bl b6 c95 c36 s95 s36
        go_enter Tryd.func41, Tryd.ntmps41
        go_wp2_with fail
        refine (fscan_digit.calls _ _ _ (by repeat (first | exact hGl | apply gl_drewN | apply gl_drew)) HD1.out).mono ?_
        rintro e w' ⟨rfl, ⟨nd, rfl⟩⟩
        go_wp2_with fail
        refine (fscan_letter.calls _ _ _ (by repeat (first | exact hGl | apply gl_drewN | apply gl_drew)) HL.out).mono ?_
        rintro e w' ⟨rfl, ⟨nd, rfl⟩⟩
        go_wp2_with fail
        refine (fscan_word.calls k _ _ _ _ (by repeat (first | exact hGl | apply gl_drewN | apply gl_drew)) HM.out).mono ?_
        rintro e w2 ⟨rfl, hb⟩
        go_wp2
        go_ret2
        exact ⟨by first | rfl | (simp; done) | (simp [*]; done), below_step (by repeat (first | exact Below.refl _ _ | apply pw_below_drewN)) hb⟩
  rw [if_neg b6] at h
  have bl : ¬ isL a0[0] = true := fun e => b6 (.inl e)
  have c95 : ¬ a0[0] = 95 := fun e => b6 (.inr (.inl e))
  have c36 : ¬ a0[0] = 36 := fun e => b6 (.inr (.inr e))
  have HL := Aside0.mk ((fletter_isL a0[0]).trans (congrArg some (Bool.eq_false_iff.2 bl)))
  have e95 : (((a0[0]).toNat : Int) == 95) = false := by rw [s95]; exact beq_eq_false_iff_ne.2 c95
  have e36 : (((a0[0]).toNat : Int) == 36) = false := by rw [s36]; exact beq_eq_false_iff_ne.2 c36
  clear bl b6 c95 c36 s95 s36
  obtain ⟨xA, yA⟩ : ∃ b, ([60, 61] : List UInt8).isPrefixOf a0.data.toList = b := ⟨_, rfl⟩
  have HA := Aside0.mk ((hasp_eq a0 ⟨#[60, 61]⟩).trans (congrArg some yA))
  obtain ⟨xB, yB⟩ : ∃ b, ([62, 61] : List UInt8).isPrefixOf a0.data.toList = b := ⟨_, rfl⟩
  have HB := Aside0.mk ((hasp_eq a0 ⟨#[62, 61]⟩).trans (congrArg some yB))
  obtain ⟨xC, yC⟩ : ∃ b, ([60, 62] : List UInt8).isPrefixOf a0.data.toList = b := ⟨_, rfl⟩
  have HC := Aside0.mk ((hasp_eq a0 ⟨#[60, 62]⟩).trans (congrArg some yC))
  have hind := index_b a0[0]
  obtain ⟨ix, hix⟩ : ∃ i, Lib.indexByte opsL a0[0] = i := ⟨_, rfl⟩
  rw [hix] at hind h
  have HI := Aside0.mk hind
  rw [yA, yB, yC] at h
  clear hind hix yA yB yC
  cases xA with
  | true =>
    rw [if_pos (by simp)] at h
    simp only [Option.some.injEq, Prod.mk.injEq] at h
    obtain ⟨rfl, rfl⟩ := h
    go_enter Tryd.func41, Tryd.ntmps41
    go_wp2_with fail
    refine (fscan_digit.calls _ _ _ (by repeat (first | exact hGl | apply gl_drewN | apply gl_drew)) HD1.out).mono ?_
    rintro e w' ⟨rfl, ⟨nd, rfl⟩⟩
    go_wp2_with fail
    refine (fscan_letter.calls _ _ _ (by repeat (first | exact hGl | apply gl_drewN | apply gl_drew)) HL.out).mono ?_
    rintro e w' ⟨rfl, ⟨nd, rfl⟩⟩
    go_wp2_with fail
    refine (strings_HasPrefix.calls _ _ _ _ (by repeat (first | exact hGl | apply gl_drewN | apply gl_drew)) HA.out).mono ?_
    rintro e w' ⟨rfl, ⟨nd, rfl⟩⟩
    go_wp2
    go_ret2
    exact ⟨by first | rfl | (simp; done) | (simp [*]; done), pw_below_drewN (Below.refl _ _) _⟩
  | false =>
    cases xB with
    | true =>
      rw [if_pos (by simp)] at h
      simp only [Option.some.injEq, Prod.mk.injEq] at h
      obtain ⟨rfl, rfl⟩ := h
      go_enter Tryd.func41, Tryd.ntmps41
      go_wp2_with fail
      refine (fscan_digit.calls _ _ _ (by repeat (first | exact hGl | apply gl_drewN | apply gl_drew)) HD1.out).mono ?_
      rintro e w' ⟨rfl, ⟨nd, rfl⟩⟩
      go_wp2_with fail
      refine (fscan_letter.calls _ _ _ (by repeat (first | exact hGl | apply gl_drewN | apply gl_drew)) HL.out).mono ?_
      rintro e w' ⟨rfl, ⟨nd, rfl⟩⟩
      go_wp2_with fail
      refine (strings_HasPrefix.calls _ _ _ _ (by repeat (first | exact hGl | apply gl_drewN | apply gl_drew)) HA.out).mono ?_
      rintro e w' ⟨rfl, ⟨nd, rfl⟩⟩
      go_wp2_with fail
      refine (strings_HasPrefix.calls _ _ _ _ (by repeat (first | exact hGl | apply gl_drewN | apply gl_drew)) HB.out).mono ?_
      rintro e w' ⟨rfl, ⟨nd, rfl⟩⟩
      go_wp2
      go_ret2
      exact ⟨by first | rfl | (simp; done) | (simp [*]; done), pw_below_drewN (Below.refl _ _) _⟩
    | false =>
      cases xC with
      | true =>
        rw [if_pos (by simp)] at h
        simp only [Option.some.injEq, Prod.mk.injEq] at h
        obtain ⟨rfl, rfl⟩ := h
        go_enter Tryd.func41, Tryd.ntmps41
        go_wp2_with fail
        refine (fscan_digit.calls _ _ _ (by repeat (first | exact hGl | apply gl_drewN | apply gl_drew)) HD1.out).mono ?_
        rintro e w' ⟨rfl, ⟨nd, rfl⟩⟩
        go_wp2_with fail
        refine (fscan_letter.calls _ _ _ (by repeat (first | exact hGl | apply gl_drewN | apply gl_drew)) HL.out).mono ?_
        rintro e w' ⟨rfl, ⟨nd, rfl⟩⟩
        go_wp2_with fail
        refine (strings_HasPrefix.calls _ _ _ _ (by repeat (first | exact hGl | apply gl_drewN | apply gl_drew)) HA.out).mono ?_
        rintro e w' ⟨rfl, ⟨nd, rfl⟩⟩
        go_wp2_with fail
        refine (strings_HasPrefix.calls _ _ _ _ (by repeat (first | exact hGl | apply gl_drewN | apply gl_drew)) HB.out).mono ?_
        rintro e w' ⟨rfl, ⟨nd, rfl⟩⟩
        go_wp2_with fail
        refine (strings_HasPrefix.calls _ _ _ _ (by repeat (first | exact hGl | apply gl_drewN | apply gl_drew)) HC.out).mono ?_
        rintro e w' ⟨rfl, ⟨nd, rfl⟩⟩
        go_wp2
        go_ret2
        exact ⟨by first | rfl | (simp; done) | (simp [*]; done), pw_below_drewN (Below.refl _ _) _⟩
      | false =>
        rw [if_neg (by simp)] at h
        by_cases bi : 0 ≤ ix
        · rw [if_pos bi] at h
          simp only [Option.some.injEq, Prod.mk.injEq] at h
          obtain ⟨rfl, rfl⟩ := h
          have d1 : decide (ix ≥ 0) = true := decide_eq_true bi
          have d2 : decide (0 ≤ ix) = true := decide_eq_true bi
          clear bi
          go_enter Tryd.func41, Tryd.ntmps41
          go_wp2_with fail
          refine (fscan_digit.calls _ _ _ (by repeat (first | exact hGl | apply gl_drewN | apply gl_drew)) HD1.out).mono ?_
          rintro e w' ⟨rfl, ⟨nd, rfl⟩⟩
          go_wp2_with fail
          refine (fscan_letter.calls _ _ _ (by repeat (first | exact hGl | apply gl_drewN | apply gl_drew)) HL.out).mono ?_
          rintro e w' ⟨rfl, ⟨nd, rfl⟩⟩
          go_wp2_with fail
          refine (strings_HasPrefix.calls _ _ _ _ (by repeat (first | exact hGl | apply gl_drewN | apply gl_drew)) HA.out).mono ?_
          rintro e w' ⟨rfl, ⟨nd, rfl⟩⟩
          go_wp2_with fail
          refine (strings_HasPrefix.calls _ _ _ _ (by repeat (first | exact hGl | apply gl_drewN | apply gl_drew)) HB.out).mono ?_
          rintro e w' ⟨rfl, ⟨nd, rfl⟩⟩
          go_wp2_with fail
          refine (strings_HasPrefix.calls _ _ _ _ (by repeat (first | exact hGl | apply gl_drewN | apply gl_drew)) HC.out).mono ?_
          rintro e w' ⟨rfl, ⟨nd, rfl⟩⟩
          go_wp2_with fail
          refine (strings_IndexByte.calls _ _ _ _ (by repeat (first | exact hGl | apply gl_drewN | apply gl_drew)) HI.out).mono ?_
          rintro e w' ⟨rfl, ⟨nd, rfl⟩⟩
          go_wp2
          go_ret2
          exact ⟨by first | rfl | (simp; done) | (simp [*]; done), pw_below_drewN (Below.refl _ _) _⟩
        · rw [if_neg bi] at h
          simp only [Option.some.injEq, Prod.mk.injEq] at h
          obtain ⟨rfl, rfl⟩ := h
          have d1 : decide (ix ≥ 0) = false := decide_eq_false bi
          have d2 : decide (0 ≤ ix) = false := decide_eq_false bi
          clear bi
          go_enter Tryd.func41, Tryd.ntmps41
          go_wp2_with fail
          refine (fscan_digit.calls _ _ _ (by repeat (first | exact hGl | apply gl_drewN | apply gl_drew)) HD1.out).mono ?_
          rintro e w' ⟨rfl, ⟨nd, rfl⟩⟩
          go_wp2_with fail
          refine (fscan_letter.calls _ _ _ (by repeat (first | exact hGl | apply gl_drewN | apply gl_drew)) HL.out).mono ?_
          rintro e w' ⟨rfl, ⟨nd, rfl⟩⟩
          go_wp2_with fail
          refine (strings_HasPrefix.calls _ _ _ _ (by repeat (first | exact hGl | apply gl_drewN | apply gl_drew)) HA.out).mono ?_
          rintro e w' ⟨rfl, ⟨nd, rfl⟩⟩
          go_wp2_with fail
          refine (strings_HasPrefix.calls _ _ _ _ (by repeat (first | exact hGl | apply gl_drewN | apply gl_drew)) HB.out).mono ?_
          rintro e w' ⟨rfl, ⟨nd, rfl⟩⟩
          go_wp2_with fail
          refine (strings_HasPrefix.calls _ _ _ _ (by repeat (first | exact hGl | apply gl_drewN | apply gl_drew)) HC.out).mono ?_
          rintro e w' ⟨rfl, ⟨nd, rfl⟩⟩
          go_wp2_with fail
          refine (strings_IndexByte.calls _ _ _ _ (by repeat (first | exact hGl | apply gl_drewN | apply gl_drew)) HI.out).mono ?_
          rintro e w' ⟨rfl, ⟨nd, rfl⟩⟩
          go_wp2
          go_ret2
          exact ⟨by first | rfl | (simp; done) | (simp [*]; done), pw_below_drewN (Below.refl _ _) _⟩
theorem fscan_next.mono (a0 : ByteArray) (k : Nat) : LeO (fscan_next.f k a0) (fscan_next.f (k + 1) a0) := by
  unfold fscan_next.f
  by_cases h0 : 0 < a0.size
  · rw [dif_pos h0, dif_pos h0]
    refine LeO.ite (LeO.refl _) (LeO.ite (LeO.bind (fscan_quoted.mono _ _ _) (fun _ => LeO.refl _)) (LeO.ite (LeO.refl _) (LeO.ite ?_ (LeO.ite ?_ (LeO.ite (fscan_word.mono _ _) (LeO.refl _))))))
    · exact LeO.bind (fscan_quoted.mono _ _ _) (fun _ => LeO.ite (LeO.bind (fscan_sheeted.mono _ _ _) (fun _ => LeO.refl _)) (LeO.refl _))
    · exact LeO.bind (fscan_rows.mono _ _) (fun _ => LeO.ite (LeO.refl _) (LeO.bind (fscan_number.mono _ _) (fun _ => LeO.refl _)))
  · rw [dif_neg h0]; exact LeO.none _
end Go.Proofs.YtefhcgnamfnkbaaDoor.Pr

