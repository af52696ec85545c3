/- Arguments that came in. -/
import Derived.Test.YtfebcpmbkljaoaaMeaX
import Derived.WalkKit
import Derived.ProofKit
import Derived.OpenShut
import Derived.ChangeOld
import Derived.Below
import Derived.Deep.SlicePairs
namespace Go.Proofs.Ytfebcpmbkljaoaa
open Go.RowKit Go.HK Go.ChangeShapes Go.WideShapes Go.ChangeAt
set_option linter.unusedVariables false
set_option linter.unusedSimpArgs false
set_option linter.unusedSectionVars false
theorem own : ownKnob Try.prog.godebug = none := by kernel_rfl
theorem laidOut : laidOutB Try.prog = true := by kernel_rfl
def u8Of : Value → Nat
  | .int _ n => n.toNat
  | _ => 0
theorem u8_of {H : Type} {enc : TypeId × Value → H} {w : World} {base : Nat} {spare : Nat → Bool} {held : Bool} {n : Nat} {v : Value} {x : DataW H × List MemPlace} (h : DataW.trod enc Try.prog w base spare held n 5 [v] = some x) : v = .int .u8 (u8Of v) ∧ u8Of v ≤ 255 := by
  obtain ⟨z, hz, _, hw⟩ := DataW.trod_int Try.underlying5 h
  simp only [List.cons.injEq, and_true] at hz
  subst hz
  have hb := bounds_u8 hw
  simp only [u8Of]
  exact ⟨by congr 1; omega, by omega⟩
theorem bytes_of {H : Type} {enc : TypeId × Value → H} {w : World} {base : Nat} {spare : Nat → Bool} {held : Bool} {fuel n c : Nat} {a : Option Addr} {x : DataW H × List MemPlace} (h : DataW.trod enc Try.prog w base spare held fuel 22 [.slice a n c] = some x) : ∃ L, BytesAt w a n L := by
  rcases Go.Deep.open_slice1 Try.underlying22 (by kernel_rfl) h with ⟨hcs, _⟩ | ⟨ad, l, cap, m, n', V, D, Pl, hcs, _, hl, _, hm, _, hcell⟩
  · simp only [List.cons.injEq, and_true, Value.slice.injEq] at hcs
    exact ⟨[], by simp [hcs.2.1], fun k x hx => by simp at hx⟩
  · simp only [List.cons.injEq, and_true, Value.slice.injEq] at hcs
    obtain ⟨rfl, rfl, rfl⟩ := hcs
    refine ⟨(List.range n).map fun i => u8Of (V i), by simp, fun k x hx => ?_⟩
    rw [List.getElem?_map] at hx
    obtain ⟨j, hj, rfl⟩ := Option.map_eq_some_iff.1 hx
    obtain ⟨hlt, he⟩ := List.getElem?_eq_some_iff.1 hj
    simp only [List.length_range] at hlt
    simp only [List.getElem_range] at he
    subst he
    obtain ⟨h1, h2⟩ := hcell k (by rw [hm]; split <;> omega)
    obtain ⟨e1, b1⟩ := u8_of h2
    exact ⟨b1, ad, rfl, h1.trans (congrArg some e1)⟩
end Go.Proofs.Ytfebcpmbkljaoaa
