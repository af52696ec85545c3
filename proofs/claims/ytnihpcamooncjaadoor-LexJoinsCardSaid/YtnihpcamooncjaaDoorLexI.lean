/- The walk of the scanner's method starts. -/
import Derived.Test.YtnihpcamooncjaaDoorLexH
import Derived.Laws.EntriesVeiled
namespace Go.Proofs.YtnihpcamooncjaaDoor
open Go.RowKit
set_option linter.unusedVariables false
set_option linter.unusedSimpArgs false
set_option linter.unusedSectionVars false
/-- The three ways in which a token begins. -/
def startsV (b : Nat) : Array Value := #[.func (.func 29) #[] #[], .func (.func 30) #[.pointer (some ⟨b, 0, none⟩)] #[], .func (.func 31) #[] #[], .func (.func 32) #[.pointer (some ⟨b, 0, none⟩)] #[], .func (.func 33) #[] #[], .func (.func 34) #[.pointer (some ⟨b, 0, none⟩)] #[]]
set_option maxRecDepth 100000 in
set_option maxHeartbeats 2000000 in
theorem starts_any (w : World) (b : Nat) :
    Calls Tryd.prog 26 #[.pointer (some ⟨b, 0, none⟩)] w fun e w' => e = .returned (.agg (startsV b)) ∧ Below w.heap.size w w' := by
  go_enter Tryd.func26, Tryd.ntmps26
  go_wp2_with (fail)
  refine bodyPost_ret (v := .agg (startsV b)) (by simp [results, Tryd.results26, go_sem, startsV]) rfl ⟨rfl, ?_⟩
  first
    | exact (Below.refl _ w).alloc (Nat.le_refl _) _
    | exact ((((((((Below.refl _ w).alloc (Nat.le_refl _) _).setCell (by simp) _).setCell (by simp) _).setCell (by simp) _).setCell (by simp) _).setCell (by simp) _).setCell (by simp) _)
end Go.Proofs.YtnihpcamooncjaaDoor
