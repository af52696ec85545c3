/- The plain law of HistoryBack. -/
import Derived.Test.YthneinepdbkgeaaLed
namespace Go.Proofs.Ythneinepdbkgeaa
open Go.RowKit Go.HK
set_option linter.unusedVariables false
set_option linter.unusedSimpArgs false
set_option linter.unusedSectionVars false
section
variable {nodes : List Go.HK.HN} {now : Nat}
theorem upL_zero (h : WF nodes now) : upL nodes 0 = [0] := by
  rw [upL_cons h h.pos, if_pos (by rw [h.root]; omega)]
theorem upL_step (h : WF nodes now) {x : Nat} (hx : x < nodes.length) (h0 : x ≠ 0) : upL nodes x = x :: upL nodes (parF nodes x).toNat := by
  have := h.par x (by omega) hx
  rw [upL_cons h hx, if_neg (by omega)]
theorem upL_next (h : WF nodes now) : ∀ (i : Nat), i < nodes.length → ∀ (k x y : Nat), (upL nodes i)[k]? = some x → (upL nodes i)[k + 1]? = some y → parF nodes x = y ∧ x ≠ 0 := by
  intro i
  induction i using Nat.strongRecOn with
  | _ i ih =>
    intro hi k x y hx hy
    by_cases h0 : i = 0
    · subst h0
      rw [upL_zero h] at hy
      simp at hy
    · have hp := h.par i (by omega) hi
      rw [upL_step h hi h0] at hx hy
      match k, hx with
      | 0, hx =>
        simp only [List.getElem?_cons_zero, Option.some.injEq] at hx
        subst hx
        simp only [List.getElem?_cons_succ] at hy
        rw [upL_cons h (by omega)] at hy
        simp only [List.getElem?_cons_zero, Option.some.injEq] at hy
        exact ⟨by omega, h0⟩
      | k + 1, hx =>
        simp only [List.getElem?_cons_succ] at hx hy
        exact ih _ (by omega) (by omega) k x y hx hy
/-- Redo goes the way back. -/
theorem led_next (h : WF nodes now) (hl : Led nodes now) {k x y : Nat} (hx : (upL nodes now)[k]? = some x) (hy : (upL nodes now)[k + 1]? = some y) : favF nodes y = x ∧ x < nodes.length := by
  obtain ⟨hp, h0⟩ := upL_next h now h.now k x y hx hy
  have hm : x ∈ upL nodes now := List.mem_of_getElem? hx
  have := hl x hm h0
  rw [hp] at this
  exact ⟨by simpa using this, upL_in h h.now x hm⟩
/-- Behind k favourites. -/
inductive Down (nodes : List Go.HK.HN) (now : Nat) : Nat → Nat → Prop where
  | zero : Down nodes now 0 now
  | succ {k x y : Nat} : Down nodes now k x → favF nodes x = y → parF nodes y = x → y < nodes.length → Down nodes now (k + 1) y
theorem Down.ge (h : WF nodes now) {k y : Nat} (hd : Down nodes now k y) : k ≤ y ∧ y < nodes.length := by
  induction hd with
  | zero => exact ⟨Nat.zero_le _, h.now⟩
  | succ hd hf hp hy ih =>
    rename_i k x y
    have := h.par' y hy
    omega
theorem Down.back {k y : Nat} (hd : Down nodes now (k + 1) y) (h : WF nodes now) : y ≠ 0 ∧ Down nodes now k (parF nodes y).toNat := by
  cases hd with
  | succ hd hf hp hy =>
    rename_i x
    have e : (parF nodes y).toNat = x := by rw [hp]; simp
    rw [e]
    refine ⟨fun h0 => ?_, hd⟩
    have := h.root
    rw [h0] at hp
    omega
theorem Down.one {y : Nat} (hd : Down nodes now 0 y) : y = now := by cases hd; rfl
end
end Go.Proofs.Ythneinepdbkgeaa
