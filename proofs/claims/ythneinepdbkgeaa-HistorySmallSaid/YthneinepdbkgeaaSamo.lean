/- SameInts at rows, also empty ones; the filing of an entry under its state. -/
import Derived.Test.YthneinepdbkgeaaTreep
import Derived.Deep.RegionHeld3
import Derived.Deep.RegionLaw
import Derived.Deep.DeepCutAuto
import Derived.Deep.DrawnRows
import Derived.Lib.Hide
namespace Go.Proofs.Ythneinepdbkgeaa
open Go.RowKit Go.HK
set_option linter.unusedVariables false
set_option linter.unusedSimpArgs false
set_option linter.unusedSectionVars false
theorem own_shape {w : World} {B : Nat} {v : Value} {n : Nat} {xs : List Value} (h : w.ownsRow B 3 1 v n xs) : ∃ a c, v = .slice a n c := by
  rcases h.2 with ⟨rfl, h0⟩ | ⟨g, c, cur, rfl, _⟩
  · subst h0; exact ⟨none, 0, rfl⟩
  · exact ⟨_, _, rfl⟩
set_option maxRecDepth 100000 in
set_option maxHeartbeats 2000000 in
theorem same_empty (w : World) (a1 a2 : Option Addr) (c1 c2 : Nat) : Calls Try.prog 23 #[.slice a1 0 c1, .slice a2 0 c2] w fun e w' => e = .returned (.bool true) ∧ ∃ d, w' = w.drewN d := by
  go_enter Try.func23, Try.ntmps23
  go_wp2_with (fail)
  go_loopw [5] (fun i wr => i = .int .i64 0 ∧ wr = w) (fun i _ => 0)
  case atStart => exact ⟨rfl, rfl⟩
  case round =>
    obtain ⟨rfl, rfl⟩ := hrel
    go_wp2_with (fail)
    go_ret
    exact ⟨rfl, 0, rfl⟩
theorem same_own (w : World) (v1 v2 : Value) (B1 B2 : Nat) (xs : List Nat) (hn : xs.length ≤ 2000) (h1 : w.ownsRow B1 3 1 v1 xs.length (ints xs)) (h2 : w.ownsRow B2 3 1 v2 xs.length (ints xs)) :
    Calls Try.prog 23 #[v1, v2] w fun e w' => e = .returned (.bool true) ∧ ∃ d, w' = w.drewN d := by
  by_cases h0 : xs.length = 0
  · obtain ⟨a1, c1, e1⟩ := own_shape h1
    obtain ⟨a2, c2, e2⟩ := own_shape h2
    rw [h0] at e1 e2
    subst e1 e2
    exact same_empty w a1 a2 c1 c2
  · obtain ⟨g1, c1, rfl, _, _⟩ := h1.form (by omega)
    obtain ⟨g2, c2, rfl, _, _⟩ := h2.form (by omega)
    exact same_yes w g1 c1 g2 c2 xs.length xs hn (RowAt.of h1 rfl).nums (RowAt.of h2 rfl).nums rfl
end Go.Proofs.Ythneinepdbkgeaa
