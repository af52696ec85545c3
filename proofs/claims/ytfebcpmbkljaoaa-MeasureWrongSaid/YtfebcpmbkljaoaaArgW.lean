/- Arguments that came in: slices of slices of bytes. -/
import Derived.Test.YtfebcpmbkljaoaaArg
import Derived.Test.YtfebcpmbkljaoaaWrA
namespace Go.Proofs.Ytfebcpmbkljaoaa
open Go.RowKit Go.HK Go.ChangeShapes Go.WideShapes Go.ChangeAt
set_option linter.unusedVariables false
set_option linter.unusedSimpArgs false
set_option linter.unusedSectionVars false
theorem ways_of {H : Type} {enc : TypeId × Value → H} {w : World} {base : Nat} {spare : Nat → Bool} {held : Bool} {fuel n c : Nat} {a : Option Addr} {x : DataW H × List MemPlace} (h : DataW.trod enc Try.prog w base spare held fuel 52 [.slice a n c] = some x) : ∃ ws, IsY w ⟨a, n, c⟩ ws := by
  rcases Go.Deep.open_slice1 Try.underlying52 (by kernel_rfl) h with ⟨hcs, _⟩ | ⟨ad, l, cap, m, n', V, D, Pl, hcs, _, hl, _, hm, _, hcell⟩
  · simp only [List.cons.injEq, and_true, Value.slice.injEq] at hcs
    exact ⟨[], by simp [hcs.2.1], fun k u hu => by simp at hu⟩
  · simp only [List.cons.injEq, and_true, Value.slice.injEq] at hcs
    obtain ⟨rfl, rfl, rfl⟩ := hcs
    have hel : ∀ k, k < n → ∃ u, ∃ sl : SL, w.cell? (ad.add k) = some (SL.v sl) ∧ BytesAt w sl.a sl.n u ∧ sl.n ≤ sl.c ∧ (sl.a = none → sl.c = 0) := fun k hk => by
      obtain ⟨h1, h2⟩ := hcell k (by rw [hm]; split <;> omega)
      rcases Go.Deep.open_slice1 Try.underlying22 (by kernel_rfl) h2 with ⟨hcs, _⟩ | ⟨ad2, l2, cap2, m2, n2, V2, D2, Pl2, hcs, _, hl2, _⟩
      · simp only [List.cons.injEq, and_true] at hcs
        exact ⟨[], ⟨none, 0, 0⟩, h1.trans (congrArg some hcs), ⟨rfl, fun j x hx => by simp at hx⟩, Nat.le_refl _, fun _ => rfl⟩
      · simp only [List.cons.injEq, and_true] at hcs
        rw [hcs] at h2 h1
        obtain ⟨u, hu⟩ := bytes_of h2
        exact ⟨u, ⟨some ad2, l2, cap2⟩, h1, hu, by first | exact hl2 | exact hl2.1 | omega, fun h => by cases h⟩
    refine ⟨(List.range n).map fun k => if h : k < n then Classical.choose (hel k h) else [], by simp, fun k u hu => ?_⟩
    rw [List.getElem?_map] at hu
    obtain ⟨j, hj, rfl⟩ := Option.map_eq_some_iff.1 hu
    obtain ⟨hlt, he⟩ := List.getElem?_eq_some_iff.1 hj
    simp only [List.length_range] at hlt
    simp only [List.getElem_range] at he
    subst he
    rw [dif_pos hlt]
    obtain ⟨sl, h1, h2⟩ := Classical.choose_spec (hel k hlt)
    exact ⟨ad, sl, rfl, h1, h2⟩
end Go.Proofs.Ytfebcpmbkljaoaa
