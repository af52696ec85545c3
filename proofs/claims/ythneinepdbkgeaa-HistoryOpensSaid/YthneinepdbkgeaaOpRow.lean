/- The length of a slice of entries, off its datum. -/
import Derived.Test.YthneinepdbkgeaaDoRow
namespace Go.Proofs.Ythneinepdbkgeaa
open Go.RowKit Go.HK Go.ChangeShapes Go.WideShapes Go.ChangeAt
set_option linter.unusedVariables false
set_option linter.unusedSimpArgs false
set_option linter.unusedSectionVars false
theorem bytes45 : Try.prog.bytesOf 45 = 48 := by kernel_rfl
theorem ents_len_of {H : Type} {enc : TypeId × Value → H} {w : World} {base : Nat} {spare : Nat → Bool} {held : Bool} {fuel : Nat} {ad : Option Addr} {n c : Nat} {d : DataW H} {p : List MemPlace} (h : DataW.trod enc Try.prog w base spare held fuel 38 [.slice ad n c] = some (d, p)) :
    n = 0 ∨ ∃ el sp, d = .slice el sp ∧ el.length = n := by
  rcases Go.Deep.open_slice Try.underlying38 h with ⟨hcs, _⟩ | ⟨a, len, cap, m, n', D, Pl, hcs, _, hl, hm, hmm, hx, _⟩
  · simp only [List.cons.injEq, Value.slice.injEq, and_true] at hcs
    exact .inl hcs.2.1
  · simp only [List.cons.injEq, Value.slice.injEq, and_true] at hcs
    simp only [Prod.mk.injEq] at hx
    exact .inr ⟨_, _, hx.1, by rw [List.length_map, List.length_range, hcs.2.1]⟩
end Go.Proofs.Ythneinepdbkgeaa
