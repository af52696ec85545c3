/- Frame: numbers that came in. -/
import Derived.Test.YtflmllablfjfeaaDoorLaid
namespace Go.Proofs.YtflmllablfjfeaaDoor
open Go Go.RowKit Go.HK Go.FR Go.ChangeShapes Go.WideShapes Go.ChangeAt Go.ChangeMaps
set_option linter.unusedVariables false
set_option linter.unusedSimpArgs false
set_option linter.unusedSectionVars false
theorem i64_of {H : Type} {enc : TypeId × Value → H} {w : World} {base : Nat} {spare : Nat → Bool} {held : Bool} {n : Nat} {v : Value} {x : DataW H × List MemPlace} (h : DataW.trod enc Tryd.prog w base spare held n 3 [v] = some x) : v = .int .i64 (intOf v) := by
  obtain ⟨z, hz, _, hw⟩ := DataW.trod_int Tryd.underlying3 h
  simp only [List.cons.injEq, and_true] at hz
  subst hz
  rfl
theorem zs_of {H : Type} {enc : TypeId × Value → H} {w : World} {base : Nat} {spare : Nat → Bool} {held : Bool} {fuel n c : Nat} {a : Option Addr} {x : DataW H × List MemPlace} (h : DataW.trod enc Tryd.prog w base spare held fuel 25 [.slice a n c] = some x) : ∃ l : List Int, IsZs (fun k => k < w.heap.size) w ⟨a, n, c⟩ l := by
  rcases Go.Deep.open_slice1 Tryd.underlying25 (by kernel_rfl) h with ⟨hcs, _⟩ | ⟨ad, l, cap, m, n', V, D, Pl, hcs, _, hl, hml, hm, _, hcell⟩
  · simp only [List.cons.injEq, and_true, Value.slice.injEq] at hcs
    exact ⟨[], hcs.2.1, fun k x hx => by simp at hx⟩
  · simp only [List.cons.injEq, and_true, Value.slice.injEq] at hcs
    obtain ⟨rfl, rfl, rfl⟩ := hcs
    have hm2 : n ≤ m := by rw [hm]; split <;> omega
    refine ⟨(List.range n).map fun i => intOf (V i), by simp, fun k x hx => ?_⟩
    rw [List.getElem?_map] at hx
    obtain ⟨j, hj, rfl⟩ := Option.map_eq_some_iff.1 hx
    obtain ⟨hlt, he⟩ := List.getElem?_eq_some_iff.1 hj
    simp only [List.length_range] at hlt
    simp only [List.getElem_range] at he
    subst he
    obtain ⟨h0, _⟩ := hcell 0 (by omega)
    obtain ⟨h1, h2⟩ := hcell k (by omega)
    have e1 := i64_of h2
    obtain ⟨g, o, sp⟩ := ad
    have hsp : sp = none := by
      have : (⟨g, o, sp⟩ : Addr).add 0 = ⟨g, o, sp⟩ := by simp [Addr.add]
      rw [this] at h0
      unfold World.cell? at h0
      split at h0
      · cases sp with
        | none => rfl
        | some s => simp at h0
      · cases h0
    subst hsp
    have e2 : (⟨g, o, none⟩ : Addr).add k = ⟨g, o + k, none⟩ := by
      unfold Addr.add
      by_cases hk : k = 0
      · simp [hk]
      · simp [hk]
    rw [e2] at h1
    exact ⟨g, o, rfl, World.block_lt_of_cell? w _ h1, h1.trans (congrArg some e1)⟩
end Go.Proofs.YtflmllablfjfeaaDoor
