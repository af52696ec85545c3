/- The walks of checker and of what it returns. -/
import Derived.Test.YtflmllablfjfeaaDoorNmb
import Derived.Deep.QuietTactic
import Derived.BigQuiet
namespace Go.Proofs.YtflmllablfjfeaaDoor
open Go.RowKit
set_option linter.unusedVariables false
set_option linter.unusedSimpArgs false
set_option linter.unusedSectionVars false
/-- The byte at a place. -/
def bt (s : ByteArray) (i : Nat) : Nat := ((bys s)[i]?.getD 0).toNat
theorem bys_len (s : ByteArray) : (bys s).length = s.size := rfl
theorem bt_eq {s : ByteArray} {i : Nat} (h : i < s.size) : (s[i]'h).toNat = bt s i := by
  have h' : i < (bys s).length := h
  simp only [bt, List.getElem?_eq_getElem h', Option.getD_some]
  rfl
theorem bt_le (s : ByteArray) (i : Nat) : bt s i ≤ 255 := by
  have := ((bys s)[i]?.getD 0).toNat_lt
  simp only [bt]; omega
/-- Whether all bytes behind the first one are accepted. -/
def allB (q : Nat → Bool) (s : ByteArray) : Bool := ((bys s).drop 1).all (fun b => q b.toNat)
def checkB (p q : Nat → Bool) (s : ByteArray) : Bool := decide (1 ≤ s.size) && decide (s.size ≤ 16) && !wordB s && p (bt s 0) && allB q s
theorem all_iff {q : Nat → Bool} {s : ByteArray} : allB q s = true ↔ ∀ j, 1 ≤ j → j < s.size → q (bt s j) = true := by
  unfold allB
  rw [List.all_eq_true]
  constructor
  · intro h j h1 hj
    have hj' : j < (bys s).length := hj
    have := h (bys s)[j] (List.mem_of_getElem? (i := j - 1) (by rw [List.getElem?_drop, show 1 + (j - 1) = j by omega, List.getElem?_eq_getElem hj']))
    simpa only [bt, List.getElem?_eq_getElem hj', Option.getD_some] using this
  · intro h x hx
    obtain ⟨i, hi⟩ := List.mem_iff_getElem?.1 hx
    rw [List.getElem?_drop] at hi
    have hl := (List.getElem?_eq_some_iff.1 hi).1
    have := h (1 + i) (by omega) hl
    simpa only [bt, hi, Option.getD_some] using this
/-- A Bool, and a world that only drew. -/
def RetD (w : World) (b : Bool) (e : Ending) (w' : World) : Prop := e = .returned (.bool b) ∧ ∃ d, w' = w.drewN d
set_option maxRecDepth 100000 in
set_option maxHeartbeats 4000000 in
theorem check_var (w : World) (s : ByteArray) (hs : s.size ≤ maxLen) (a1 a2 : Addr) (h1 : w.cell? a1 = some (.func (.func 92) #[] #[])) (h2 : w.cell? a2 = some (.func (.func 80) #[] #[])) :
    Calls Tryd.prog 77 #[.string s, .pointer (some a1), .pointer (some a2)] w (RetD w (checkB varB digitB s)) := by
  unfold maxLen at hs
  by_cases l1 : 1 ≤ s.size
  · by_cases l2 : s.size ≤ 16
    · have d1 : decide ((s.size : Int) < 1) = false := decide_eq_false (by omega)
      have d2 : decide ((16 : Int) < (s.size : Int)) = false := decide_eq_false (by omega)
      have hwd := fun w' => reserved_any w' s
      have hz : (0 : Int) < (s.size : Int) := by omega
      have hz2 : 0 < s.size := by omega
      have hpp := fun w' => var1_any w' ((s[0]'hz2).toNat) (by rw [bt_eq]; exact bt_le s 0)
      cases hw : wordB s with
      | true =>
        have hr : checkB varB digitB s = false := by simp [checkB, hw]
        rw [hr]
        rw [hw] at hwd
        have HWD := Lib.hid hwd
        have HP := Lib.hid hpp
        clear hwd hw hr hpp
        go_enter Tryd.func77, Tryd.ntmps77
        go_wp2_with (fail)
        go_quiet (first
          | (go_at_call 78; exact Calls.quiet_of_same ((HWD.out _).mono fun _ _ h => ⟨h.1, h.2.symm⟩))
          | (go_at_call 92; exact Calls.quiet_of_same ((HP.out _).mono fun _ _ h => ⟨h.1, h.2.symm⟩)))
        go_wp2_with (fail)
        go_ret
        exact ⟨rfl, _, rfl⟩
      | false =>
        cases hp : varB (bt s 0) with
        | false =>
          have hr : checkB varB digitB s = false := by simp [checkB, hp]
          rw [hr]
          rw [hw] at hwd
          rw [bt_eq hz2, hp] at hpp
          have HWD := Lib.hid hwd
          have HP := Lib.hid (fun w' => by have := hpp w'; rw [← bt_eq hz2] at this; exact this : ∀ w', Calls Tryd.prog 92 #[.int .u8 ((s[0]'hz2).toNat : Nat)] w' (RetC w' false))
          clear hwd hw hr hpp hp
          go_enter Tryd.func77, Tryd.ntmps77
          go_wp2_with (fail)
          go_quiet (first
            | (go_at_call 78; exact Calls.quiet_of_same ((HWD.out _).mono fun _ _ h => ⟨h.1, h.2.symm⟩))
            | (go_at_call 92; exact Calls.quiet_of_same ((HP.out _).mono fun _ _ h => ⟨h.1, h.2.symm⟩)))
          go_wp2_with (fail)
          go_ret
          exact ⟨rfl, _, rfl⟩
        | true =>
          have hr : checkB varB digitB s = allB digitB s := by simp [checkB, hp, hw, l1, l2]
          rw [hr]
          rw [hw] at hwd
          rw [bt_eq hz2, hp] at hpp
          have HWD := Lib.hid hwd
          have HP := Lib.hid (fun w' => by have := hpp w'; rw [← bt_eq hz2] at this; exact this : ∀ w', Calls Tryd.prog 92 #[.int .u8 ((s[0]'hz2).toNat : Nat)] w' (RetC w' true))
          clear hwd hw hr hpp hp
          go_enter Tryd.func77, Tryd.ntmps77
          go_wp2_with (fail)
          go_quiet (first
            | (go_at_call 78; exact Calls.quiet_of_same ((HWD.out _).mono fun _ _ h => ⟨h.1, h.2.symm⟩))
            | (go_at_call 92; exact Calls.quiet_of_same ((HP.out _).mono fun _ _ h => ⟨h.1, h.2.symm⟩)))
          go_wp2_with (fail)
          go_loopw [5] (fun i wr => ∃ k d : Nat, 1 ≤ k ∧ k ≤ s.size ∧ i = .int .i64 k ∧ wr = w.drewN d ∧ ∀ j, 1 ≤ j → j < k → digitB (bt s j) = true) (fun i _ => s.size - (intOf i).toNat)
          case atStart => exact ⟨1, _, by omega, by omega, rfl, rfl, fun j h1 h2 => by omega⟩
          case round =>
            obtain ⟨k, d, hk1, hk, rfl, hwr, hall⟩ := hrel
            have g2 : wr.cell? a2 = some (.func (.func 80) #[] #[]) := by rw [hwr]; exact h2
            have HWR := Lib.hid hwr
            have HALL := Lib.hid hall
            clear hwr hall h1 h2
            by_cases hks : k < s.size
            · have b0 : (0 : Int) ≤ (k : Int) := by omega
              have b1 : (k : Int) < (s.size : Int) := by omega
              have hqq := fun w' => digit_any w' ((s[k]'hks).toNat) (by rw [bt_eq]; exact bt_le s k)
              cases hq : digitB (bt s k) with
              | true =>
                have HQ := Lib.hid hq
                rw [bt_eq hks, hq] at hqq
                have HQQ := Lib.hid (fun w' => by have := hqq w'; rw [← bt_eq hks] at this; exact this : ∀ w', Calls Tryd.prog 80 #[.int .u8 ((s[k]'hks).toNat : Nat)] w' (RetC w' true))
                clear hqq hq
                go_wp2_with (fail)
                go_quiet ((go_at_call 80; exact Calls.quiet_of_same ((HQQ.out _).mono fun _ _ h => ⟨h.1, h.2.symm⟩)))
                go_wp2_with (fail)
                go_roundw
                case rel => exact ⟨k + 1, d + nq, by omega, by omega, by go_num, by rw [HWR.out, World.drewN_drewN], fun j h1 h2 => by
                  by_cases e : j = k
                  · rw [e]; exact HQ.out
                  · exact HALL.out j h1 (by omega)⟩
                case measure => simp [intOf]; omega
              | false =>
                have hf : allB digitB s = false := by
                  cases h : allB digitB s with
                  | false => rfl
                  | true => have := all_iff.1 h k hk1 hks; rw [hq] at this; cases this
                rw [bt_eq hks, hq] at hqq
                have HQQ := Lib.hid (fun w' => by have := hqq w'; rw [← bt_eq hks] at this; exact this : ∀ w', Calls Tryd.prog 80 #[.int .u8 ((s[k]'hks).toNat : Nat)] w' (RetC w' false))
                have HF := Lib.hid hf
                clear hqq hq hf
                go_wp2_with (fail)
                go_quiet ((go_at_call 80; exact Calls.quiet_of_same ((HQQ.out _).mono fun _ _ h => ⟨h.1, h.2.symm⟩)))
                go_wp2_with (fail)
                go_ret
                exact ⟨by rw [HF.out]; rfl, d + nq, by rw [HWR.out, World.drewN_drewN]⟩
            · have b1 : ¬ ((k : Int) < (s.size : Int)) := by omega
              have hf : allB digitB s = true := all_iff.2 fun j h1 hj => HALL.out j h1 (by omega)
              have HF := Lib.hid hf
              clear hf
              go_wp2_with (fail)
              go_ret
              exact ⟨by rw [HF.out]; rfl, d, HWR.out⟩
    · have d1 : decide ((s.size : Int) < 1) = false := decide_eq_false (by omega)
      have d2 : decide ((16 : Int) < (s.size : Int)) = true := decide_eq_true (by omega)
      have hr : checkB varB digitB s = false := by simp [checkB, l2]
      rw [hr]
      clear hr
      go_enter Tryd.func77, Tryd.ntmps77
      go_wp2_with (fail)
      go_quiet (fail)
      go_wp2_with (fail)
      go_ret
      exact ⟨rfl, _, rfl⟩
  · have d1 : decide ((s.size : Int) < 1) = true := decide_eq_true (by omega)
    have hr : checkB varB digitB s = false := by simp [checkB, l1]
    rw [hr]
    clear hr
    go_enter Tryd.func77, Tryd.ntmps77
    go_wp2_with (fail)
    go_quiet (fail)
    go_wp2_with (fail)
    go_ret
    exact ⟨rfl, _, rfl⟩
set_option maxRecDepth 100000 in
set_option maxHeartbeats 4000000 in
theorem check_fun (w : World) (s : ByteArray) (hs : s.size ≤ maxLen) (a1 a2 : Addr) (h1 : w.cell? a1 = some (.func (.func 96) #[] #[])) (h2 : w.cell? a2 = some (.func (.func 70) #[] #[])) :
    Calls Tryd.prog 77 #[.string s, .pointer (some a1), .pointer (some a2)] w (RetD w (checkB funB alnumB s)) := by
  unfold maxLen at hs
  by_cases l1 : 1 ≤ s.size
  · by_cases l2 : s.size ≤ 16
    · have d1 : decide ((s.size : Int) < 1) = false := decide_eq_false (by omega)
      have d2 : decide ((16 : Int) < (s.size : Int)) = false := decide_eq_false (by omega)
      have hwd := fun w' => reserved_any w' s
      have hz : (0 : Int) < (s.size : Int) := by omega
      have hz2 : 0 < s.size := by omega
      have hpp := fun w' => fun1_any w' ((s[0]'hz2).toNat) (by rw [bt_eq]; exact bt_le s 0)
      cases hw : wordB s with
      | true =>
        have hr : checkB funB alnumB s = false := by simp [checkB, hw]
        rw [hr]
        rw [hw] at hwd
        have HWD := Lib.hid hwd
        have HP := Lib.hid hpp
        clear hwd hw hr hpp
        go_enter Tryd.func77, Tryd.ntmps77
        go_wp2_with (fail)
        go_quiet (first
          | (go_at_call 78; exact Calls.quiet_of_same ((HWD.out _).mono fun _ _ h => ⟨h.1, h.2.symm⟩))
          | (go_at_call 96; exact Calls.quiet_of_same ((HP.out _).mono fun _ _ h => ⟨h.1, h.2.symm⟩)))
        go_wp2_with (fail)
        go_ret
        exact ⟨rfl, _, rfl⟩
      | false =>
        cases hp : funB (bt s 0) with
        | false =>
          have hr : checkB funB alnumB s = false := by simp [checkB, hp]
          rw [hr]
          rw [hw] at hwd
          rw [bt_eq hz2, hp] at hpp
          have HWD := Lib.hid hwd
          have HP := Lib.hid (fun w' => by have := hpp w'; rw [← bt_eq hz2] at this; exact this : ∀ w', Calls Tryd.prog 96 #[.int .u8 ((s[0]'hz2).toNat : Nat)] w' (RetC w' false))
          clear hwd hw hr hpp hp
          go_enter Tryd.func77, Tryd.ntmps77
          go_wp2_with (fail)
          go_quiet (first
            | (go_at_call 78; exact Calls.quiet_of_same ((HWD.out _).mono fun _ _ h => ⟨h.1, h.2.symm⟩))
            | (go_at_call 96; exact Calls.quiet_of_same ((HP.out _).mono fun _ _ h => ⟨h.1, h.2.symm⟩)))
          go_wp2_with (fail)
          go_ret
          exact ⟨rfl, _, rfl⟩
        | true =>
          have hr : checkB funB alnumB s = allB alnumB s := by simp [checkB, hp, hw, l1, l2]
          rw [hr]
          rw [hw] at hwd
          rw [bt_eq hz2, hp] at hpp
          have HWD := Lib.hid hwd
          have HP := Lib.hid (fun w' => by have := hpp w'; rw [← bt_eq hz2] at this; exact this : ∀ w', Calls Tryd.prog 96 #[.int .u8 ((s[0]'hz2).toNat : Nat)] w' (RetC w' true))
          clear hwd hw hr hpp hp
          go_enter Tryd.func77, Tryd.ntmps77
          go_wp2_with (fail)
          go_quiet (first
            | (go_at_call 78; exact Calls.quiet_of_same ((HWD.out _).mono fun _ _ h => ⟨h.1, h.2.symm⟩))
            | (go_at_call 96; exact Calls.quiet_of_same ((HP.out _).mono fun _ _ h => ⟨h.1, h.2.symm⟩)))
          go_wp2_with (fail)
          go_loopw [5] (fun i wr => ∃ k d : Nat, 1 ≤ k ∧ k ≤ s.size ∧ i = .int .i64 k ∧ wr = w.drewN d ∧ ∀ j, 1 ≤ j → j < k → alnumB (bt s j) = true) (fun i _ => s.size - (intOf i).toNat)
          case atStart => exact ⟨1, _, by omega, by omega, rfl, rfl, fun j h1 h2 => by omega⟩
          case round =>
            obtain ⟨k, d, hk1, hk, rfl, hwr, hall⟩ := hrel
            have g2 : wr.cell? a2 = some (.func (.func 70) #[] #[]) := by rw [hwr]; exact h2
            have HWR := Lib.hid hwr
            have HALL := Lib.hid hall
            clear hwr hall h1 h2
            by_cases hks : k < s.size
            · have b0 : (0 : Int) ≤ (k : Int) := by omega
              have b1 : (k : Int) < (s.size : Int) := by omega
              have hqq := fun w' => salnum_any w' ((s[k]'hks).toNat) (by rw [bt_eq]; exact bt_le s k)
              cases hq : alnumB (bt s k) with
              | true =>
                have HQ := Lib.hid hq
                rw [bt_eq hks, hq] at hqq
                have HQQ := Lib.hid (fun w' => by have := hqq w'; rw [← bt_eq hks] at this; exact this : ∀ w', Calls Tryd.prog 70 #[.int .u8 ((s[k]'hks).toNat : Nat)] w' (RetC w' true))
                clear hqq hq
                go_wp2_with (fail)
                go_quiet ((go_at_call 70; exact Calls.quiet_of_same ((HQQ.out _).mono fun _ _ h => ⟨h.1, h.2.symm⟩)))
                go_wp2_with (fail)
                go_roundw
                case rel => exact ⟨k + 1, d + nq, by omega, by omega, by go_num, by rw [HWR.out, World.drewN_drewN], fun j h1 h2 => by
                  by_cases e : j = k
                  · rw [e]; exact HQ.out
                  · exact HALL.out j h1 (by omega)⟩
                case measure => simp [intOf]; omega
              | false =>
                have hf : allB alnumB s = false := by
                  cases h : allB alnumB s with
                  | false => rfl
                  | true => have := all_iff.1 h k hk1 hks; rw [hq] at this; cases this
                rw [bt_eq hks, hq] at hqq
                have HQQ := Lib.hid (fun w' => by have := hqq w'; rw [← bt_eq hks] at this; exact this : ∀ w', Calls Tryd.prog 70 #[.int .u8 ((s[k]'hks).toNat : Nat)] w' (RetC w' false))
                have HF := Lib.hid hf
                clear hqq hq hf
                go_wp2_with (fail)
                go_quiet ((go_at_call 70; exact Calls.quiet_of_same ((HQQ.out _).mono fun _ _ h => ⟨h.1, h.2.symm⟩)))
                go_wp2_with (fail)
                go_ret
                exact ⟨by rw [HF.out]; rfl, d + nq, by rw [HWR.out, World.drewN_drewN]⟩
            · have b1 : ¬ ((k : Int) < (s.size : Int)) := by omega
              have hf : allB alnumB s = true := all_iff.2 fun j h1 hj => HALL.out j h1 (by omega)
              have HF := Lib.hid hf
              clear hf
              go_wp2_with (fail)
              go_ret
              exact ⟨by rw [HF.out]; rfl, d, HWR.out⟩
    · have d1 : decide ((s.size : Int) < 1) = false := decide_eq_false (by omega)
      have d2 : decide ((16 : Int) < (s.size : Int)) = true := decide_eq_true (by omega)
      have hr : checkB funB alnumB s = false := by simp [checkB, l2]
      rw [hr]
      clear hr
      go_enter Tryd.func77, Tryd.ntmps77
      go_wp2_with (fail)
      go_quiet (fail)
      go_wp2_with (fail)
      go_ret
      exact ⟨rfl, _, rfl⟩
  · have d1 : decide ((s.size : Int) < 1) = true := decide_eq_true (by omega)
    have hr : checkB funB alnumB s = false := by simp [checkB, l1]
    rw [hr]
    clear hr
    go_enter Tryd.func77, Tryd.ntmps77
    go_wp2_with (fail)
    go_quiet (fail)
    go_wp2_with (fail)
    go_ret
    exact ⟨rfl, _, rfl⟩
set_option maxRecDepth 100000 in
set_option maxHeartbeats 4000000 in
theorem check_pred (w : World) (s : ByteArray) (hs : s.size ≤ maxLen) (a1 a2 : Addr) (h1 : w.cell? a1 = some (.func (.func 69) #[] #[])) (h2 : w.cell? a2 = some (.func (.func 70) #[] #[])) :
    Calls Tryd.prog 77 #[.string s, .pointer (some a1), .pointer (some a2)] w (RetD w (checkB capB alnumB s)) := by
  unfold maxLen at hs
  by_cases l1 : 1 ≤ s.size
  · by_cases l2 : s.size ≤ 16
    · have d1 : decide ((s.size : Int) < 1) = false := decide_eq_false (by omega)
      have d2 : decide ((16 : Int) < (s.size : Int)) = false := decide_eq_false (by omega)
      have hwd := fun w' => reserved_any w' s
      have hz : (0 : Int) < (s.size : Int) := by omega
      have hz2 : 0 < s.size := by omega
      have hpp := fun w' => cap_any w' ((s[0]'hz2).toNat) (by rw [bt_eq]; exact bt_le s 0)
      cases hw : wordB s with
      | true =>
        have hr : checkB capB alnumB s = false := by simp [checkB, hw]
        rw [hr]
        rw [hw] at hwd
        have HWD := Lib.hid hwd
        have HP := Lib.hid hpp
        clear hwd hw hr hpp
        go_enter Tryd.func77, Tryd.ntmps77
        go_wp2_with (fail)
        go_quiet (first
          | (go_at_call 78; exact Calls.quiet_of_same ((HWD.out _).mono fun _ _ h => ⟨h.1, h.2.symm⟩))
          | (go_at_call 69; exact Calls.quiet_of_same ((HP.out _).mono fun _ _ h => ⟨h.1, h.2.symm⟩)))
        go_wp2_with (fail)
        go_ret
        exact ⟨rfl, _, rfl⟩
      | false =>
        cases hp : capB (bt s 0) with
        | false =>
          have hr : checkB capB alnumB s = false := by simp [checkB, hp]
          rw [hr]
          rw [hw] at hwd
          rw [bt_eq hz2, hp] at hpp
          have HWD := Lib.hid hwd
          have HP := Lib.hid (fun w' => by have := hpp w'; rw [← bt_eq hz2] at this; exact this : ∀ w', Calls Tryd.prog 69 #[.int .u8 ((s[0]'hz2).toNat : Nat)] w' (RetC w' false))
          clear hwd hw hr hpp hp
          go_enter Tryd.func77, Tryd.ntmps77
          go_wp2_with (fail)
          go_quiet (first
            | (go_at_call 78; exact Calls.quiet_of_same ((HWD.out _).mono fun _ _ h => ⟨h.1, h.2.symm⟩))
            | (go_at_call 69; exact Calls.quiet_of_same ((HP.out _).mono fun _ _ h => ⟨h.1, h.2.symm⟩)))
          go_wp2_with (fail)
          go_ret
          exact ⟨rfl, _, rfl⟩
        | true =>
          have hr : checkB capB alnumB s = allB alnumB s := by simp [checkB, hp, hw, l1, l2]
          rw [hr]
          rw [hw] at hwd
          rw [bt_eq hz2, hp] at hpp
          have HWD := Lib.hid hwd
          have HP := Lib.hid (fun w' => by have := hpp w'; rw [← bt_eq hz2] at this; exact this : ∀ w', Calls Tryd.prog 69 #[.int .u8 ((s[0]'hz2).toNat : Nat)] w' (RetC w' true))
          clear hwd hw hr hpp hp
          go_enter Tryd.func77, Tryd.ntmps77
          go_wp2_with (fail)
          go_quiet (first
            | (go_at_call 78; exact Calls.quiet_of_same ((HWD.out _).mono fun _ _ h => ⟨h.1, h.2.symm⟩))
            | (go_at_call 69; exact Calls.quiet_of_same ((HP.out _).mono fun _ _ h => ⟨h.1, h.2.symm⟩)))
          go_wp2_with (fail)
          go_loopw [5] (fun i wr => ∃ k d : Nat, 1 ≤ k ∧ k ≤ s.size ∧ i = .int .i64 k ∧ wr = w.drewN d ∧ ∀ j, 1 ≤ j → j < k → alnumB (bt s j) = true) (fun i _ => s.size - (intOf i).toNat)
          case atStart => exact ⟨1, _, by omega, by omega, rfl, rfl, fun j h1 h2 => by omega⟩
          case round =>
            obtain ⟨k, d, hk1, hk, rfl, hwr, hall⟩ := hrel
            have g2 : wr.cell? a2 = some (.func (.func 70) #[] #[]) := by rw [hwr]; exact h2
            have HWR := Lib.hid hwr
            have HALL := Lib.hid hall
            clear hwr hall h1 h2
            by_cases hks : k < s.size
            · have b0 : (0 : Int) ≤ (k : Int) := by omega
              have b1 : (k : Int) < (s.size : Int) := by omega
              have hqq := fun w' => salnum_any w' ((s[k]'hks).toNat) (by rw [bt_eq]; exact bt_le s k)
              cases hq : alnumB (bt s k) with
              | true =>
                have HQ := Lib.hid hq
                rw [bt_eq hks, hq] at hqq
                have HQQ := Lib.hid (fun w' => by have := hqq w'; rw [← bt_eq hks] at this; exact this : ∀ w', Calls Tryd.prog 70 #[.int .u8 ((s[k]'hks).toNat : Nat)] w' (RetC w' true))
                clear hqq hq
                go_wp2_with (fail)
                go_quiet ((go_at_call 70; exact Calls.quiet_of_same ((HQQ.out _).mono fun _ _ h => ⟨h.1, h.2.symm⟩)))
                go_wp2_with (fail)
                go_roundw
                case rel => exact ⟨k + 1, d + nq, by omega, by omega, by go_num, by rw [HWR.out, World.drewN_drewN], fun j h1 h2 => by
                  by_cases e : j = k
                  · rw [e]; exact HQ.out
                  · exact HALL.out j h1 (by omega)⟩
                case measure => simp [intOf]; omega
              | false =>
                have hf : allB alnumB s = false := by
                  cases h : allB alnumB s with
                  | false => rfl
                  | true => have := all_iff.1 h k hk1 hks; rw [hq] at this; cases this
                rw [bt_eq hks, hq] at hqq
                have HQQ := Lib.hid (fun w' => by have := hqq w'; rw [← bt_eq hks] at this; exact this : ∀ w', Calls Tryd.prog 70 #[.int .u8 ((s[k]'hks).toNat : Nat)] w' (RetC w' false))
                have HF := Lib.hid hf
                clear hqq hq hf
                go_wp2_with (fail)
                go_quiet ((go_at_call 70; exact Calls.quiet_of_same ((HQQ.out _).mono fun _ _ h => ⟨h.1, h.2.symm⟩)))
                go_wp2_with (fail)
                go_ret
                exact ⟨by rw [HF.out]; rfl, d + nq, by rw [HWR.out, World.drewN_drewN]⟩
            · have b1 : ¬ ((k : Int) < (s.size : Int)) := by omega
              have hf : allB alnumB s = true := all_iff.2 fun j h1 hj => HALL.out j h1 (by omega)
              have HF := Lib.hid hf
              clear hf
              go_wp2_with (fail)
              go_ret
              exact ⟨by rw [HF.out]; rfl, d, HWR.out⟩
    · have d1 : decide ((s.size : Int) < 1) = false := decide_eq_false (by omega)
      have d2 : decide ((16 : Int) < (s.size : Int)) = true := decide_eq_true (by omega)
      have hr : checkB capB alnumB s = false := by simp [checkB, l2]
      rw [hr]
      clear hr
      go_enter Tryd.func77, Tryd.ntmps77
      go_wp2_with (fail)
      go_quiet (fail)
      go_wp2_with (fail)
      go_ret
      exact ⟨rfl, _, rfl⟩
  · have d1 : decide ((s.size : Int) < 1) = true := decide_eq_true (by omega)
    have hr : checkB capB alnumB s = false := by simp [checkB, l1]
    rw [hr]
    clear hr
    go_enter Tryd.func77, Tryd.ntmps77
    go_wp2_with (fail)
    go_quiet (fail)
    go_wp2_with (fail)
    go_ret
    exact ⟨rfl, _, rfl⟩
end Go.Proofs.YtflmllablfjfeaaDoor
