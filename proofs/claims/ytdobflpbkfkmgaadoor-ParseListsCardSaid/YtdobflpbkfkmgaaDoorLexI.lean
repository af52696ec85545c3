/- The walk of the scanner's method starts. -/
import Derived.Test.YtdobflpbkfkmgaaDoorLexH
import Derived.Laws.EntriesVeiled
namespace Go.Proofs.YtdobflpbkfkmgaaDoor
open Go.RowKit
set_option linter.unusedVariables false
set_option linter.unusedSimpArgs false
set_option linter.unusedSectionVars false
/-- The three ways in which a token begins. -/
def startsV (b : Nat) : Array Value := #[.func (.func 93) #[] #[], .func (.func 94) #[.pointer (some ⟨b, 0, none⟩)] #[], .func (.func 95) #[] #[], .func (.func 96) #[.pointer (some ⟨b, 0, none⟩)] #[], .func (.func 97) #[] #[], .func (.func 98) #[.pointer (some ⟨b, 0, none⟩)] #[]]
set_option maxRecDepth 100000 in
set_option maxHeartbeats 2000000 in
theorem starts_any (w : World) (b : Nat) :
    Calls Tryd.prog 76 #[.pointer (some ⟨b, 0, none⟩)] w fun e w' => e = .returned (.agg (startsV b)) ∧ Below w.heap.size w w' := by
  go_enter Tryd.func76, Tryd.ntmps76
  go_wp2_with (fail)
  refine bodyPost_ret (v := .agg (startsV b)) (by simp [results, Tryd.results76, go_sem, startsV]) rfl ⟨rfl, ?_⟩
  first
    | exact (Below.refl _ w).alloc (Nat.le_refl _) _
    | exact ((((((((Below.refl _ w).alloc (Nat.le_refl _) _).setCell (by simp) _).setCell (by simp) _).setCell (by simp) _).setCell (by simp) _).setCell (by simp) _).setCell (by simp) _)
end Go.Proofs.YtdobflpbkfkmgaaDoor
