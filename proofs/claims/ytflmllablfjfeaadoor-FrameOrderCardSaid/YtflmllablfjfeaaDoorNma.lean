/- The walks of the predicates on bytes. -/
import Derived.Test.YtflmllablfjfeaaDoorProg
import Derived.Test.YtflmllablfjfeaaDoorKit
import Derived.WalkKit
import Derived.WalkSpells
import Derived.Lib.Hide
namespace Go.Proofs.YtflmllablfjfeaaDoor
open Go.RowKit
set_option linter.unusedVariables false
set_option linter.unusedSimpArgs false
set_option linter.unusedSectionVars false
def smallB (c : Nat) : Bool := decide (97 ≤ c) && decide (c ≤ 122)
def capB (c : Nat) : Bool := decide (65 ≤ c) && decide (c ≤ 90)
def digitB (c : Nat) : Bool := decide (48 ≤ c) && decide (c ≤ 57)
def letterB (c : Nat) : Bool := smallB c || capB c
def alnumB (c : Nat) : Bool := letterB c || digitB c
def blankB (c : Nat) : Bool := decide (c = 32) || decide (c = 9) || decide (c = 10) || decide (c = 13)
def markB (c : Nat) : Bool := decide (c = 63)
def varB (c : Nat) : Bool := decide (117 ≤ c) && decide (c ≤ 122)
def funB (c : Nat) : Bool := decide (97 ≤ c) && decide (c ≤ 116)
section
variable (w : World) (c : Nat)
/-- A byte's predicate, told. -/
def RetC (w : World) (b : Bool) (e : Ending) (w' : World) : Prop := e = .returned (.bool b) ∧ w = w'
set_option maxRecDepth 100000 in
theorem small_any (hc : c ≤ 255) : Calls Tryd.prog 79 #[.int .u8 c] w (RetC w (smallB c)) := by
  obtain ⟨R, hR⟩ : ∃ R, smallB c = R := ⟨_, rfl⟩
  rw [hR]
  have HR := Lib.hid hR
  clear hR
  go_enter Tryd.func79, Tryd.ntmps79
  go_wp2
  all_goals (
    go_ret
    rw [← HR.out]
    refine ⟨congrArg (fun b => Ending.returned (Value.bool b)) (Bool.eq_iff_iff.2 ?_), rfl⟩
    simp [letterB, alnumB, smallB, capB, digitB, blankB, varB, funB, markB, *]
    try omega)
set_option maxRecDepth 100000 in
theorem cap_any (hc : c ≤ 255) : Calls Tryd.prog 69 #[.int .u8 c] w (RetC w (capB c)) := by
  obtain ⟨R, hR⟩ : ∃ R, capB c = R := ⟨_, rfl⟩
  rw [hR]
  have HR := Lib.hid hR
  clear hR
  go_enter Tryd.func69, Tryd.ntmps69
  go_wp2
  all_goals (
    go_ret
    rw [← HR.out]
    refine ⟨congrArg (fun b => Ending.returned (Value.bool b)) (Bool.eq_iff_iff.2 ?_), rfl⟩
    simp [letterB, alnumB, smallB, capB, digitB, blankB, varB, funB, markB, *]
    try omega)
set_option maxRecDepth 100000 in
theorem digit_any (hc : c ≤ 255) : Calls Tryd.prog 80 #[.int .u8 c] w (RetC w (digitB c)) := by
  obtain ⟨R, hR⟩ : ∃ R, digitB c = R := ⟨_, rfl⟩
  rw [hR]
  have HR := Lib.hid hR
  clear hR
  go_enter Tryd.func80, Tryd.ntmps80
  go_wp2
  all_goals (
    go_ret
    rw [← HR.out]
    refine ⟨congrArg (fun b => Ending.returned (Value.bool b)) (Bool.eq_iff_iff.2 ?_), rfl⟩
    simp [letterB, alnumB, smallB, capB, digitB, blankB, varB, funB, markB, *]
    try omega)
set_option maxRecDepth 100000 in
theorem var1_any (hc : c ≤ 255) : Calls Tryd.prog 92 #[.int .u8 c] w (RetC w (varB c)) := by
  obtain ⟨R, hR⟩ : ∃ R, varB c = R := ⟨_, rfl⟩
  rw [hR]
  have HR := Lib.hid hR
  clear hR
  go_enter Tryd.func92, Tryd.ntmps92
  go_wp2
  all_goals (
    go_ret
    rw [← HR.out]
    refine ⟨congrArg (fun b => Ending.returned (Value.bool b)) (Bool.eq_iff_iff.2 ?_), rfl⟩
    simp [letterB, alnumB, smallB, capB, digitB, blankB, varB, funB, markB, *]
    try omega)
set_option maxRecDepth 100000 in
theorem fun1_any (hc : c ≤ 255) : Calls Tryd.prog 96 #[.int .u8 c] w (RetC w (funB c)) := by
  obtain ⟨R, hR⟩ : ∃ R, funB c = R := ⟨_, rfl⟩
  rw [hR]
  have HR := Lib.hid hR
  clear hR
  go_enter Tryd.func96, Tryd.ntmps96
  go_wp2
  all_goals (
    go_ret
    rw [← HR.out]
    refine ⟨congrArg (fun b => Ending.returned (Value.bool b)) (Bool.eq_iff_iff.2 ?_), rfl⟩
    simp [letterB, alnumB, smallB, capB, digitB, blankB, varB, funB, markB, *]
    try omega)
set_option maxRecDepth 100000 in
theorem salnum_any (hc : c ≤ 255) : Calls Tryd.prog 70 #[.int .u8 c] w (RetC w (alnumB c)) := by
  obtain ⟨R, hR⟩ : ∃ R, alnumB c = R := ⟨_, rfl⟩
  rw [hR]
  have HR := Lib.hid hR
  clear hR
  go_enter Tryd.func70, Tryd.ntmps70
  go_wp2_with (first | (go_at_call 79; ((with_reducible refine (small_any w c hc).mono ?_); rintro e w' ⟨rfl, rfl⟩))| (go_at_call 69; ((with_reducible refine (cap_any w c hc).mono ?_); rintro e w' ⟨rfl, rfl⟩))| (go_at_call 80; ((with_reducible refine (digit_any w c hc).mono ?_); rintro e w' ⟨rfl, rfl⟩)))
  all_goals (
    go_ret
    rw [← HR.out]
    refine ⟨congrArg (fun b => Ending.returned (Value.bool b)) (Bool.eq_iff_iff.2 ?_), rfl⟩
    have hR' := HR.out
    clear HR
    simp only [letterB, alnumB, smallB, capB, digitB, Bool.or_eq_true, Bool.and_eq_true, decide_eq_true_eq, Bool.or_eq_false_iff, Bool.and_eq_false_iff, decide_eq_false_iff_not, Bool.false_eq_true, Bool.true_eq_false, iff_true, iff_false, true_iff, false_iff] at *
    try omega)
end
end Go.Proofs.YtflmllablfjfeaaDoor
