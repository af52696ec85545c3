/- The walk of SameInts at the two slices of awake. -/
import Derived.Test.YthneinepdbkgeaaBetw
namespace Go.Proofs.Ythneinepdbkgeaa
open Go.RowKit Go.HK
set_option linter.unusedVariables false
set_option linter.unusedSimpArgs false
set_option linter.unusedSectionVars false
set_option maxRecDepth 100000 in
set_option maxHeartbeats 2000000 in
theorem same_yes (w : World) (g1 c1 g2 c2 n : Nat) (xs : List Nat) (hn : n ≤ 2000) (h1 : ∀ k : Nat, k < n → w.cell? ⟨g1, k, none⟩ = (ints xs)[k]?) (h2 : ∀ k : Nat, k < n → w.cell? ⟨g2, k, none⟩ = (ints xs)[k]?) (hx : n = xs.length) :
    Calls Try.prog 23 #[.slice (some ⟨g1, 0, none⟩) n c1, .slice (some ⟨g2, 0, none⟩) n c2] w fun e w' => e = .returned (.bool true) ∧ ∃ d, w' = w.drewN d := by
  have HX := Lib.hid hx
  have H1 := Lib.hid h1
  have H2 := Lib.hid h2
  clear hx h1 h2
  go_enter Try.func23, Try.ntmps23
  go_wp2_with (fail)
  go_loopw [5] (fun i wr => ∃ k d : Nat, k ≤ n ∧ i = .int .i64 k ∧ wr = w.drewN d) (fun i _ => n - (intOf i).toNat)
  case atStart => exact ⟨0, 0, Nat.zero_le _, rfl, rfl⟩
  case round =>
    obtain ⟨k, d, hkn, rfl, rfl⟩ := hrel
    by_cases hlt : k < n
    · obtain ⟨x, hx⟩ : ∃ x, xs[k]? = some x := ⟨_, List.getElem?_eq_getElem (by have := HX.out; omega)⟩
      have cx : w.cell? ⟨g1, k, none⟩ = some (.int .i64 x) := by rw [H1.out k hlt]; simp [ints, hx]
      have cy : w.cell? ⟨g2, k, none⟩ = some (.int .i64 x) := by rw [H2.out k hlt]; simp [ints, hx]
      have b0 : (0 : Int) ≤ (k : Int) := by omega
      have b1 : (k : Int) < (n : Int) := by omega
      go_wp2_with (fail)
      go_quiet (fail)
      go_wp2_with (fail)
      go_roundw
      case rel => exact ⟨k + 1, d + nq, by omega, by go_num, rfl⟩
      case measure => simp [intOf]; omega
    · go_wp2_with (fail)
      go_ret
      exact ⟨rfl, d, rfl⟩
end Go.Proofs.Ythneinepdbkgeaa
