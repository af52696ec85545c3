/- The walks of Variable, Function, Predicate, HasPrefix and Meta. -/
import Derived.Test.YtflmllablfjfeaaDoorNmc
import Derived.Below
namespace Go.Proofs.YtflmllablfjfeaaDoor
open Go.RowKit
set_option linter.unusedVariables false
set_option linter.unusedSimpArgs false
set_option linter.unusedSectionVars false
/-- A Bool, and a world with nothing old turned. -/
def RetW (w : World) (b : Bool) (e : Ending) (w' : World) : Prop := e = .returned (.bool b) ∧ Below w.heap.size w w'
theorem below_drewN {B : Nat} {a w : World} (h : Below B a w) (n : Nat) : Below B a (w.drewN n) := ⟨h.os, h.tape, h.output, h.size, h.block⟩
theorem blk_new (w : World) (o : Obj) : (w.alloc o).heap[w.heap.size]? = some o := by
  show (w.heap.push o)[w.heap.size]? = some o
  simp
theorem blk_cell {w : World} {b : Nat} {cs : Array Value} {t : TypeId} (h : w.heap[b]? = some (.cells cs t (0, 0))) (i : Nat) : w.cell? ⟨b, i, none⟩ = cs[i]? := by
  simp [World.cell?, h]
/-- The world behind checker. -/
def chkW (w : World) (F O : Nat) : World := (w.alloc (.cells #[.func (.func F) #[] #[]] 104)).alloc (.cells #[.func (.func O) #[] #[]] 104)
theorem chkW_below (w : World) (F O : Nat) : Below w.heap.size w (chkW w F O) := ((Below.refl _ w).alloc (Nat.le_refl _) _).alloc (by simp) _
theorem chkW_1 (w : World) (F O : Nat) : (chkW w F O).cell? ⟨w.heap.size, 0, none⟩ = some (.func (.func F) #[] #[]) := by
  have h1 := blk_new w (.cells #[.func (.func F) #[] #[]] 104)
  have h2 := (Below.heap_alloc (w.alloc (.cells #[.func (.func F) #[] #[]] 104)) (.cells #[.func (.func O) #[] #[]] 104) w.heap.size (by simp)).trans h1
  exact blk_cell h2 0
theorem chkW_2 (w : World) (F O : Nat) : (chkW w F O).cell? ⟨w.heap.size + 1, 0, none⟩ = some (.func (.func O) #[] #[]) := by
  have h1 := blk_new (w.alloc (.cells #[.func (.func F) #[] #[]] 104)) (.cells #[.func (.func O) #[] #[]] 104)
  rw [World.size_alloc] at h1
  exact blk_cell h1 0
set_option maxRecDepth 100000 in
theorem checker_any (w : World) (F O : Nat) : Calls Tryd.prog 68 #[.func (.func F) #[] #[], .func (.func O) #[] #[]] w fun e w' => e = .returned (.func (.func 77) #[] #[.pointer (some ⟨w.heap.size, 0, none⟩), .pointer (some ⟨w.heap.size + 1, 0, none⟩)]) ∧ chkW w F O = w' := by
  go_enter Tryd.func68, Tryd.ntmps68
  go_wp2
  go_ret
  exact ⟨rfl, rfl⟩
set_option maxRecDepth 100000 in
set_option maxHeartbeats 1000000 in
theorem variable_any (w : World) (s : ByteArray) (hs : s.size ≤ maxLen) : Calls Tryd.prog 88 #[.string s] w (RetW w (checkB varB digitB s)) := by
  have hc := check_var (chkW w 92 80) s hs _ _ (chkW_1 w 92 80) (chkW_2 w 92 80)
  have HC := Lib.hid hc
  clear hc
  go_enter Tryd.func88, Tryd.ntmps88
  go_wp2_with (first
    | (go_at_call 68; (refine (checker_any w 92 80).mono ?_; rintro e w' ⟨rfl, rfl⟩))
    | (go_at_call 77; (refine HC.out.mono ?_; rintro e w' ⟨rfl, d, rfl⟩)))
  go_ret
  exact ⟨rfl, below_drewN (chkW_below w 92 80) d⟩
set_option maxRecDepth 100000 in
set_option maxHeartbeats 1000000 in
theorem function_any (w : World) (s : ByteArray) (hs : s.size ≤ maxLen) : Calls Tryd.prog 94 #[.string s] w (RetW w (checkB funB alnumB s)) := by
  have hc := check_fun (chkW w 96 70) s hs _ _ (chkW_1 w 96 70) (chkW_2 w 96 70)
  have HC := Lib.hid hc
  clear hc
  go_enter Tryd.func94, Tryd.ntmps94
  go_wp2_with (first
    | (go_at_call 68; (refine (checker_any w 96 70).mono ?_; rintro e w' ⟨rfl, rfl⟩))
    | (go_at_call 77; (refine HC.out.mono ?_; rintro e w' ⟨rfl, d, rfl⟩)))
  go_ret
  exact ⟨rfl, below_drewN (chkW_below w 96 70) d⟩
set_option maxRecDepth 100000 in
set_option maxHeartbeats 1000000 in
theorem predicate_any (w : World) (s : ByteArray) (hs : s.size ≤ maxLen) : Calls Tryd.prog 43 #[.string s] w (RetW w (checkB capB alnumB s)) := by
  have hc := check_pred (chkW w 69 70) s hs _ _ (chkW_1 w 69 70) (chkW_2 w 69 70)
  have HC := Lib.hid hc
  clear hc
  go_enter Tryd.func43, Tryd.ntmps43
  go_wp2_with (first
    | (go_at_call 68; (refine (checker_any w 69 70).mono ?_; rintro e w' ⟨rfl, rfl⟩))
    | (go_at_call 77; (refine HC.out.mono ?_; rintro e w' ⟨rfl, d, rfl⟩)))
  go_ret
  exact ⟨rfl, below_drewN (chkW_below w 69 70) d⟩
end Go.Proofs.YtflmllablfjfeaaDoor
