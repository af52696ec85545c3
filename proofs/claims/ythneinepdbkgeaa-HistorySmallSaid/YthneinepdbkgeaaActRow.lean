/- A slice of acts that came in. -/
import Derived.Test.YthneinepdbkgeaaActn
import Derived.WalkKit
import Derived.ProofKit
import Derived.OpenShut
import Derived.ChangeOld
import Derived.Below
import Derived.Deep.SlicePairs
namespace Go.Proofs.Ythneinepdbkgeaa
open Go.RowKit Go.HK Go.ChangeShapes Go.WideShapes Go.ChangeAt
set_option linter.unusedVariables false
set_option linter.unusedSimpArgs false
set_option linter.unusedSectionVars false
theorem own : ownKnob Try.prog.godebug = none := by kernel_rfl
theorem laidOut : laidOutB Try.prog = true := by kernel_rfl
/-- What a walk is told of a slice of acts. -/
def ActsIn (w : World) (v : Value) : Prop := v = .slice none 0 0 ∨ ∃ a n c K A, v = .slice (some a) n c ∧ ActsAt w a n K A ∧ n ≤ maxLen
theorem acted_in {w : World} {v : Value} (h : ActsIn w v) : ∀ w', Below w.heap.size w w' → Calls Try.prog 13 #[v] w' (ActedR w') := by
  intro w' hB
  rcases h with rfl | ⟨a, n, c, K, A, rfl, hA, hn⟩
  · exact acted_nil w'
  · refine acted_some w' a n c K A (fun i hi => ?_) (by simp only [maxLen] at hn; omega)
    obtain ⟨h1, h2, h3⟩ := hA i hi
    exact ⟨(hB.cell (World.block_lt_of_cell? w _ h1)).trans h1, (hB.cell (World.block_lt_of_cell? w _ h2)).trans h2, h3⟩
def u8Of : Value → Nat
  | .int _ n => n.toNat
  | _ => 0
theorem u8_of {H : Type} {enc : TypeId × Value → H} {w : World} {base : Nat} {spare : Nat → Bool} {held : Bool} {n : Nat} {v : Value} {x : DataW H × List MemPlace} (h : DataW.trod enc Try.prog w base spare held n 5 [v] = some x) : v = .int .u8 (u8Of v) ∧ u8Of v ≤ 255 := by
  obtain ⟨z, hz, _, hw⟩ := DataW.trod_int Try.underlying5 h
  simp only [List.cons.injEq, and_true] at hz
  subst hz
  have hb := bounds_u8 hw
  simp only [u8Of]
  exact ⟨by congr 1; omega, by omega⟩
theorem acts_of {H : Type} {enc : TypeId × Value → H} {w : World} {base : Nat} {spare : Nat → Bool} {held : Bool} {fuel : Nat} {v : Value} {x : DataW H × List MemPlace} (h : DataW.trod enc Try.prog w base spare held fuel 22 [v] = some x) : ActsIn w v := by
  rcases Go.Deep.open_slice_pairs Try.underlying22 Try.underlying42 (by kernel_rfl) rfl rfl (by kernel_rfl) (by kernel_rfl) h with ⟨hcs, _⟩ | ⟨a, l, c, m, n, V0, V1, D0, D1, P0, P1, hcs, _, hl, hm, hmm, _, hcell⟩
  · simp only [List.cons.injEq, and_true] at hcs
    exact .inl hcs
  · simp only [List.cons.injEq, and_true] at hcs
    refine .inr ⟨a, l, c, fun i => u8Of (V0 i), fun i => u8Of (V1 i), hcs, fun i hi => ?_, by omega⟩
    obtain ⟨h1, h2, h3, h4⟩ := hcell i (by rw [hmm]; split <;> omega)
    obtain ⟨e1, b1⟩ := u8_of h3
    obtain ⟨e2, b2⟩ := u8_of h4
    exact ⟨h1.trans (congrArg some e1), h2.trans (congrArg some e2), b1, b2⟩
end Go.Proofs.Ythneinepdbkgeaa
