/- fscan.run: how many bytes at the beginning a function accepts; once for each function that it is called with. -/
import Derived.Test.YtefhcgnamfnkbaaDoorScx1
import Derived.Test.YtefhcgnamfnkbaaDoorPlace
namespace Go.Proofs.YtefhcgnamfnkbaaDoor.Pr
open Go.RowKit Go.Proofs.YtefhcgnamfnkbaaDoorW.PrintWords Go.Proofs.YtefhcgnamfnkbaaDoorW.PrintLast Go.Proofs.YtefhcgnamfnkbaaDoorW.PrintMore
/-- The length of the longest beginning whose bytes all have p. -/
def runP (p : UInt8 → Bool) (a0 : ByteArray) : Option Int := if a0.size ≤ 140737488355328 then some ((a0.data.toList.takeWhile p).length : Int) else none
def intNat : Value → Nat | .int _ n => n.toNat | _ => 0
def isK (c : UInt8) : Bool := isL c || (isD c || c == 36)
def isW (c : UInt8) : Bool := isK c || (c == 95 || c == 46)
def isS (c : UInt8) : Bool := c == 32 || c == 9
theorem fdigit_isD (c : UInt8) : fscan_digit.f (c.toNat : Int) = some (isD c) := by
  have : ∀ n : Fin 256, fscan_digit.f (n.val : Int) = some (isD (UInt8.ofNat n.val)) := by decide +kernel
  have e := this ⟨c.toNat, UInt8.toNat_lt c⟩
  simpa only [UInt8.ofNat_toNat] using e
theorem corner_isK (c : UInt8) : fscan_corner.f (c.toNat : Int) = some (isK c) := by
  have : ∀ n : Fin 256, fscan_corner.f (n.val : Int) = some (isK (UInt8.ofNat n.val)) := by decide +kernel
  have e := this ⟨c.toNat, UInt8.toNat_lt c⟩
  simpa only [UInt8.ofNat_toNat] using e
theorem wordly_isW (c : UInt8) : fscan_wordly.f (c.toNat : Int) = some (isW c) := by
  have : ∀ n : Fin 256, fscan_wordly.f (n.val : Int) = some (isW (UInt8.ofNat n.val)) := by decide +kernel
  have e := this ⟨c.toNat, UInt8.toNat_lt c⟩
  simpa only [UInt8.ofNat_toNat] using e
theorem spaces_calls (c : UInt8) (w : World) (_hGl : Gl w) : Calls Tryd.prog 86 #[.int .u8 (c.toNat : Int)] w fun e w' => e = .returned (.bool (isS c)) ∧ Drawn0 w w' := by
  have hc : (c == 32) = ((c.toNat : Int) == 32) ∧ (c == 9) = ((c.toNat : Int) == 9) := by
    have : ∀ n : Fin 256, (UInt8.ofNat n.val == 32) = ((n.val : Int) == 32) ∧ (UInt8.ofNat n.val == 9) = ((n.val : Int) == 9) := by decide +kernel
    have e := this ⟨c.toNat, UInt8.toNat_lt c⟩
    simpa only [UInt8.ofNat_toNat] using e
  unfold isS
  rw [hc.1, hc.2]
  obtain ⟨x, hx⟩ : ∃ x : Int, x = (c.toNat : Int) := ⟨_, rfl⟩
  rw [← hx]
  clear hx hc
  by_cases h1 : x = 32
  · have e1 : (x == 32) = true := beq_iff_eq.2 h1
    rw [e1]
    clear h1
    go_enter Tryd.func86, Tryd.ntmps86
    go_wp2
    go_ret
    exact ⟨by first | rfl | simp, Drawn0.refl _⟩
  · have e1 : (x == 32) = false := beq_eq_false_iff_ne.2 h1
    rw [e1]
    clear h1
    go_enter Tryd.func86, Tryd.ntmps86
    go_wp2
    go_ret
    exact ⟨by first | rfl | simp, Drawn0.refl _⟩
theorem spaces_b (c : UInt8) (b : Bool) (w : World) (hGl : Gl w) (h : isS c = b) : Calls Tryd.prog 86 #[.int .u8 (c.toNat : Int)] w fun e w' => e = .returned (.bool b) ∧ Drawn0 w w' := by
  subst h
  exact spaces_calls c w hGl
theorem take_step (p : UInt8 → Bool) (l : List UInt8) (n : Nat) (h : n < l.length) (T : l.takeWhile p = l.take n ++ (l.drop n).takeWhile p) :
    (p l[n] = true → l.takeWhile p = l.take (n + 1) ++ (l.drop (n + 1)).takeWhile p) ∧ (p l[n] = false → (l.takeWhile p).length = n) := by
  have e := List.drop_eq_getElem_cons h
  constructor
  · intro hp
    have e2 : l.take (n + 1) = l.take n ++ [l[n]] := by rw [List.take_add_one, List.getElem?_eq_getElem h]; rfl
    rw [T, e, List.takeWhile_cons, hp, e2, List.append_assoc]
    rfl
  · intro hp
    rw [T, e, List.takeWhile_cons, hp]
    simp; omega
theorem run_end (p : UInt8 → Bool) (l : List UInt8) (n : Nat) (h : l.length ≤ n) (T : l.takeWhile p = l.take n ++ (l.drop n).takeWhile p) : (l.takeWhile p).length = l.length := by
  rw [T, List.drop_of_length_le h, List.take_of_length_le h]
  simp

def fscan_run_89.f (a0 : ByteArray) : Option Int := runP isD a0
set_option maxHeartbeats 4000000 in
set_option maxRecDepth 100000 in
theorem fscan_run_89.calls (a0 : ByteArray) (r : Int) (w : World) (hGl : Gl w) (h : fscan_run_89.f a0 = some r) :
    Calls Tryd.prog 85 #[.string a0, .func (.func 89) #[] #[]] w fun e w' => e = .returned (.int .i64 r) ∧ Drawn0 w w' := by
  unfold fscan_run_89.f runP at h
  split at h
  case isFalse => cases h
  rename_i hs
  obtain rfl := Option.some.inj h
  have hlen : a0.data.toList.length = a0.size := by rw [Array.length_toList]; rfl
  have HL := Aside0.mk hlen
  clear h hlen
  go_enter Tryd.func85, Tryd.ntmps85
  go_wp2
  go_loopw [5] (fun v5 wr => ∃ n : Nat, v5 = .int .i64 (n : Int) ∧ n ≤ a0.size ∧ Aside0 (a0.data.toList.takeWhile isD = a0.data.toList.take n ++ (a0.data.toList.drop n).takeWhile isD) ∧ Aside0 (∃ q, wr = w.drewN q)) (fun v5 _ => a0.size - intNat v5)
  case atStart => exact ⟨0, rfl, Nat.zero_le _, ⟨by simp⟩, ⟨0, rfl⟩⟩
  case round =>
    obtain ⟨n, rfl, hn, HT, HQ⟩ := hrel
    by_cases h0 : n < a0.size
    · have d1 : decide ((n : Int) < (a0.size : Int)) = true := decide_eq_true (by omega)
      have p1 : (0 : Int) ≤ (n : Int) := Int.natCast_nonneg n
      have p2 : (n : Int) < (a0.size : Int) := by omega
      have hl : n < a0.data.toList.length := by rw [HL.out]; exact h0
      have ts := take_step isD a0.data.toList n hl HT.out
      have TS := Aside0.mk ts
      have hcc : a0[n] = a0.data.toList[n] := rfl
      have HCC := Aside0.mk hcc
      clear ts hcc
      have hq := HQ.out
      obtain ⟨q, rfl⟩ := hq
      clear HQ
      cases hp : isD a0[n] with
      | true =>
        have HP := Aside0.mk hp
        clear hp
        go_wp2_with (go_at_call 89; refine (fscan_digit.calls _ _ _ (by repeat (first | exact hGl | apply gl_drewN | apply gl_drew)) ((fdigit_isD _).trans (congrArg some HP.out))).mono ?_; rintro e w' ⟨rfl, ⟨nd, rfl⟩⟩)
        go_roundw
        case rel => exact ⟨n + 1, rfl, h0, ⟨TS.out.1 (by rw [← HCC.out]; exact HP.out)⟩, ⟨_, rfl⟩⟩
        case measure => simp [intNat]; omega
      | false =>
        have HP := Aside0.mk hp
        clear hp
        go_wp2_with (go_at_call 89; refine (fscan_digit.calls _ _ _ (by repeat (first | exact hGl | apply gl_drewN | apply gl_drew)) ((fdigit_isD _).trans (congrArg some HP.out))).mono ?_; rintro e w' ⟨rfl, ⟨nd, rfl⟩⟩)
        go_ret
        have ht := TS.out.2 (by rw [← HCC.out]; exact HP.out)
        exact ⟨by rw [ht]; first | rfl | simp, ⟨_, rfl⟩⟩
    · have d1 : decide ((n : Int) < (a0.size : Int)) = false := decide_eq_false (by omega)
      have hq := HQ.out
      obtain ⟨q, rfl⟩ := hq
      clear HQ
      go_wp2
      go_ret
      refine ⟨?_, (Drawn0.refl w).step q⟩
      rw [run_end isD a0.data.toList n (by rw [HL.out]; omega) HT.out, HL.out]
      have : n = a0.size := by omega
      rw [this]
      first | rfl | simp

def fscan_run_115.f (a0 : ByteArray) : Option Int := runP isK a0
set_option maxHeartbeats 4000000 in
set_option maxRecDepth 100000 in
theorem fscan_run_115.calls (a0 : ByteArray) (r : Int) (w : World) (hGl : Gl w) (h : fscan_run_115.f a0 = some r) :
    Calls Tryd.prog 85 #[.string a0, .func (.func 115) #[] #[]] w fun e w' => e = .returned (.int .i64 r) ∧ Drawn0 w w' := by
  unfold fscan_run_115.f runP at h
  split at h
  case isFalse => cases h
  rename_i hs
  obtain rfl := Option.some.inj h
  have hlen : a0.data.toList.length = a0.size := by rw [Array.length_toList]; rfl
  have HL := Aside0.mk hlen
  clear h hlen
  go_enter Tryd.func85, Tryd.ntmps85
  go_wp2
  go_loopw [5] (fun v5 wr => ∃ n : Nat, v5 = .int .i64 (n : Int) ∧ n ≤ a0.size ∧ Aside0 (a0.data.toList.takeWhile isK = a0.data.toList.take n ++ (a0.data.toList.drop n).takeWhile isK) ∧ Aside0 (∃ q, wr = w.drewN q)) (fun v5 _ => a0.size - intNat v5)
  case atStart => exact ⟨0, rfl, Nat.zero_le _, ⟨by simp⟩, ⟨0, rfl⟩⟩
  case round =>
    obtain ⟨n, rfl, hn, HT, HQ⟩ := hrel
    by_cases h0 : n < a0.size
    · have d1 : decide ((n : Int) < (a0.size : Int)) = true := decide_eq_true (by omega)
      have p1 : (0 : Int) ≤ (n : Int) := Int.natCast_nonneg n
      have p2 : (n : Int) < (a0.size : Int) := by omega
      have hl : n < a0.data.toList.length := by rw [HL.out]; exact h0
      have ts := take_step isK a0.data.toList n hl HT.out
      have TS := Aside0.mk ts
      have hcc : a0[n] = a0.data.toList[n] := rfl
      have HCC := Aside0.mk hcc
      clear ts hcc
      have hq := HQ.out
      obtain ⟨q, rfl⟩ := hq
      clear HQ
      cases hp : isK a0[n] with
      | true =>
        have HP := Aside0.mk hp
        clear hp
        go_wp2_with (go_at_call 115; refine (fscan_corner.calls _ _ _ (by repeat (first | exact hGl | apply gl_drewN | apply gl_drew)) ((corner_isK _).trans (congrArg some HP.out))).mono ?_; rintro e w' ⟨rfl, ⟨nd, rfl⟩⟩)
        go_roundw
        case rel => exact ⟨n + 1, rfl, h0, ⟨TS.out.1 (by rw [← HCC.out]; exact HP.out)⟩, ⟨_, rfl⟩⟩
        case measure => simp [intNat]; omega
      | false =>
        have HP := Aside0.mk hp
        clear hp
        go_wp2_with (go_at_call 115; refine (fscan_corner.calls _ _ _ (by repeat (first | exact hGl | apply gl_drewN | apply gl_drew)) ((corner_isK _).trans (congrArg some HP.out))).mono ?_; rintro e w' ⟨rfl, ⟨nd, rfl⟩⟩)
        go_ret
        have ht := TS.out.2 (by rw [← HCC.out]; exact HP.out)
        exact ⟨by rw [ht]; first | rfl | simp, ⟨_, rfl⟩⟩
    · have d1 : decide ((n : Int) < (a0.size : Int)) = false := decide_eq_false (by omega)
      have hq := HQ.out
      obtain ⟨q, rfl⟩ := hq
      clear HQ
      go_wp2
      go_ret
      refine ⟨?_, (Drawn0.refl w).step q⟩
      rw [run_end isK a0.data.toList n (by rw [HL.out]; omega) HT.out, HL.out]
      have : n = a0.size := by omega
      rw [this]
      first | rfl | simp

def fscan_run_117.f (a0 : ByteArray) : Option Int := runP isW a0
set_option maxHeartbeats 4000000 in
set_option maxRecDepth 100000 in
theorem fscan_run_117.calls (a0 : ByteArray) (r : Int) (w : World) (hGl : Gl w) (h : fscan_run_117.f a0 = some r) :
    Calls Tryd.prog 85 #[.string a0, .func (.func 117) #[] #[]] w fun e w' => e = .returned (.int .i64 r) ∧ Drawn0 w w' := by
  unfold fscan_run_117.f runP at h
  split at h
  case isFalse => cases h
  rename_i hs
  obtain rfl := Option.some.inj h
  have hlen : a0.data.toList.length = a0.size := by rw [Array.length_toList]; rfl
  have HL := Aside0.mk hlen
  clear h hlen
  go_enter Tryd.func85, Tryd.ntmps85
  go_wp2
  go_loopw [5] (fun v5 wr => ∃ n : Nat, v5 = .int .i64 (n : Int) ∧ n ≤ a0.size ∧ Aside0 (a0.data.toList.takeWhile isW = a0.data.toList.take n ++ (a0.data.toList.drop n).takeWhile isW) ∧ Aside0 (∃ q, wr = w.drewN q)) (fun v5 _ => a0.size - intNat v5)
  case atStart => exact ⟨0, rfl, Nat.zero_le _, ⟨by simp⟩, ⟨0, rfl⟩⟩
  case round =>
    obtain ⟨n, rfl, hn, HT, HQ⟩ := hrel
    by_cases h0 : n < a0.size
    · have d1 : decide ((n : Int) < (a0.size : Int)) = true := decide_eq_true (by omega)
      have p1 : (0 : Int) ≤ (n : Int) := Int.natCast_nonneg n
      have p2 : (n : Int) < (a0.size : Int) := by omega
      have hl : n < a0.data.toList.length := by rw [HL.out]; exact h0
      have ts := take_step isW a0.data.toList n hl HT.out
      have TS := Aside0.mk ts
      have hcc : a0[n] = a0.data.toList[n] := rfl
      have HCC := Aside0.mk hcc
      clear ts hcc
      have hq := HQ.out
      obtain ⟨q, rfl⟩ := hq
      clear HQ
      cases hp : isW a0[n] with
      | true =>
        have HP := Aside0.mk hp
        clear hp
        go_wp2_with (go_at_call 117; refine (fscan_wordly.calls _ _ _ (by repeat (first | exact hGl | apply gl_drewN | apply gl_drew)) ((wordly_isW _).trans (congrArg some HP.out))).mono ?_; rintro e w' ⟨rfl, ⟨nd, rfl⟩⟩)
        go_roundw
        case rel => exact ⟨n + 1, rfl, h0, ⟨TS.out.1 (by rw [← HCC.out]; exact HP.out)⟩, ⟨_, rfl⟩⟩
        case measure => simp [intNat]; omega
      | false =>
        have HP := Aside0.mk hp
        clear hp
        go_wp2_with (go_at_call 117; refine (fscan_wordly.calls _ _ _ (by repeat (first | exact hGl | apply gl_drewN | apply gl_drew)) ((wordly_isW _).trans (congrArg some HP.out))).mono ?_; rintro e w' ⟨rfl, ⟨nd, rfl⟩⟩)
        go_ret
        have ht := TS.out.2 (by rw [← HCC.out]; exact HP.out)
        exact ⟨by rw [ht]; first | rfl | simp, ⟨_, rfl⟩⟩
    · have d1 : decide ((n : Int) < (a0.size : Int)) = false := decide_eq_false (by omega)
      have hq := HQ.out
      obtain ⟨q, rfl⟩ := hq
      clear HQ
      go_wp2
      go_ret
      refine ⟨?_, (Drawn0.refl w).step q⟩
      rw [run_end isW a0.data.toList n (by rw [HL.out]; omega) HT.out, HL.out]
      have : n = a0.size := by omega
      rw [this]
      first | rfl | simp

def fscan_run_86.f (a0 : ByteArray) : Option Int := runP isS a0
set_option maxHeartbeats 4000000 in
set_option maxRecDepth 100000 in
theorem fscan_run_86.calls (a0 : ByteArray) (r : Int) (w : World) (hGl : Gl w) (h : fscan_run_86.f a0 = some r) :
    Calls Tryd.prog 85 #[.string a0, .func (.func 86) #[] #[]] w fun e w' => e = .returned (.int .i64 r) ∧ Drawn0 w w' := by
  unfold fscan_run_86.f runP at h
  split at h
  case isFalse => cases h
  rename_i hs
  obtain rfl := Option.some.inj h
  have hlen : a0.data.toList.length = a0.size := by rw [Array.length_toList]; rfl
  have HL := Aside0.mk hlen
  clear h hlen
  go_enter Tryd.func85, Tryd.ntmps85
  go_wp2
  go_loopw [5] (fun v5 wr => ∃ n : Nat, v5 = .int .i64 (n : Int) ∧ n ≤ a0.size ∧ Aside0 (a0.data.toList.takeWhile isS = a0.data.toList.take n ++ (a0.data.toList.drop n).takeWhile isS) ∧ Aside0 (∃ q, wr = w.drewN q)) (fun v5 _ => a0.size - intNat v5)
  case atStart => exact ⟨0, rfl, Nat.zero_le _, ⟨by simp⟩, ⟨0, rfl⟩⟩
  case round =>
    obtain ⟨n, rfl, hn, HT, HQ⟩ := hrel
    by_cases h0 : n < a0.size
    · have d1 : decide ((n : Int) < (a0.size : Int)) = true := decide_eq_true (by omega)
      have p1 : (0 : Int) ≤ (n : Int) := Int.natCast_nonneg n
      have p2 : (n : Int) < (a0.size : Int) := by omega
      have hl : n < a0.data.toList.length := by rw [HL.out]; exact h0
      have ts := take_step isS a0.data.toList n hl HT.out
      have TS := Aside0.mk ts
      have hcc : a0[n] = a0.data.toList[n] := rfl
      have HCC := Aside0.mk hcc
      clear ts hcc
      have hq := HQ.out
      obtain ⟨q, rfl⟩ := hq
      clear HQ
      cases hp : isS a0[n] with
      | true =>
        have HP := Aside0.mk hp
        clear hp
        go_wp2_with (go_at_call 86; refine (spaces_b _ _ _ (by repeat (first | exact hGl | apply gl_drewN | apply gl_drew)) HP.out).mono ?_; rintro e w' ⟨rfl, ⟨nd, rfl⟩⟩)
        go_roundw
        case rel => exact ⟨n + 1, rfl, h0, ⟨TS.out.1 (by rw [← HCC.out]; exact HP.out)⟩, ⟨_, rfl⟩⟩
        case measure => simp [intNat]; omega
      | false =>
        have HP := Aside0.mk hp
        clear hp
        go_wp2_with (go_at_call 86; refine (spaces_b _ _ _ (by repeat (first | exact hGl | apply gl_drewN | apply gl_drew)) HP.out).mono ?_; rintro e w' ⟨rfl, ⟨nd, rfl⟩⟩)
        go_ret
        have ht := TS.out.2 (by rw [← HCC.out]; exact HP.out)
        exact ⟨by rw [ht]; first | rfl | simp, ⟨_, rfl⟩⟩
    · have d1 : decide ((n : Int) < (a0.size : Int)) = false := decide_eq_false (by omega)
      have hq := HQ.out
      obtain ⟨q, rfl⟩ := hq
      clear HQ
      go_wp2
      go_ret
      refine ⟨?_, (Drawn0.refl w).step q⟩
      rw [run_end isS a0.data.toList n (by rw [HL.out]; omega) HT.out, HL.out]
      have : n = a0.size := by omega
      rw [this]
      first | rfl | simp
end Go.Proofs.YtefhcgnamfnkbaaDoor.Pr
