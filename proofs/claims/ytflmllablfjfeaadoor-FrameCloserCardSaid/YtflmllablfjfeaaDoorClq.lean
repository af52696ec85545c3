/- Frame: two models made in one drawn region: rows that are not the same (FrameCloser). -/
import Derived.Test.YtflmllablfjfeaaDoorClp
import Derived.Test.YtflmllablfjfeaaDoorPli
namespace Go.Proofs.YtflmllablfjfeaaDoor
open Go.RowKit Go.HK Go.FR
set_option linter.unusedVariables false
set_option linter.unusedSimpArgs false
set_option linter.unusedSectionVars false
theorem madeQ_ok (n : Nat) (h1 : 1 ≤ n) (h4 : n ≤ 4) (F : Nat → Nat) : FrOk (madeR n F n) := ⟨by rw [madeR_len]; omega, fun w s h => by
  unfold madeR at h
  rw [List.getElem?_map] at h
  rw [madeR_len]
  obtain ⟨x, _, rfl⟩ := Option.map_eq_some_iff.1 h
  exact Nat.mod_lt _ (Nat.two_pow_pos n)⟩
/-- The block of a model's relation. -/
def rb : Value → Option Nat
  | .agg a => match a[2]? with
    | some v => v.ownBlock
    | none => none
  | _ => none
/-- A model's value, its relation; ob: the other one is there, at v. -/
def MoV (m : Nat) (ob : Bool) (v : Value) (n : Nat) (rl : List Nat) (W : World) (r : Value) : Prop := ∃ (g c : Nat) (v0 v1 v3 v4 v5 v6 : Value), r = .agg #[v0, v1, .slice (some ⟨g, 0, none⟩) n c, v3, v4, v5, v6] ∧ W.ownsRow m 3 1 (.slice (some ⟨g, 0, none⟩) n c) n (ints rl) ∧ (ob = true → rb v ≠ some g)
/-- Its relation's slice. -/
def SlV (m n : Nat) (rl : List Nat) (r0 : Value) (W : World) (r : Value) : Prop := ∃ (g c : Nat), r = .slice (some ⟨g, 0, none⟩) n c ∧ W.ownsRow m 3 1 (.slice (some ⟨g, 0, none⟩) n c) n (ints rl) ∧ rb r0 = some g
section
variable {m n : Nat} {ob : Bool} {v r r0 : Value} {rl : List Nat} {W W' : World}
theorem MoV.below (h : MoV m ob v n rl W r) (hB : Below W.heap.size W W') : MoV m ob v n rl W' r := by
  obtain ⟨g, c, v0, v1, v3, v4, v5, v6, h1, h2, h3⟩ := h
  exact ⟨g, c, v0, v1, v3, v4, v5, v6, h1, own_below9 h2 hB, h3⟩
theorem SlV.below (h : SlV m n rl r0 W r) (hB : Below W.heap.size W W') : SlV m n rl r0 W' r := by
  obtain ⟨g, c, h1, h2, h3⟩ := h
  exact ⟨g, c, h1, own_below9 h2 hB, h3⟩
theorem own_from {w : World} {b g c k : Nat} {xs : List Value} (h : w.ownsRow b 3 1 (.slice (some ⟨g, 0, none⟩) k c) k xs) : b ≤ g := by
  rcases h.2 with ⟨h1, _⟩ | ⟨g', cap, cur, h1, h2, _⟩
  · cases h1
  · cases h1; exact h2
/-- What was made later lies elsewhere. -/
theorem MoV.ne {g c k : Nat} {xs : List Value} (h : MoV m ob v n rl W r) (ho : W'.ownsRow W.heap.size 3 1 (.slice (some ⟨g, 0, none⟩) k c) k xs) : rb r ≠ some g := by
  obtain ⟨g', c', v0, v1, v3, v4, v5, v6, h1, h2, h3⟩ := h
  have hl := own_lt9 h2 g' rfl
  have hg := own_from ho
  intro e
  rw [h1] at e
  have : g' = g := by simpa [rb, Value.ownBlock] using e
  omega
theorem MoV.other {g c k : Nat} {v0 v1 v3 v4 v5 v6 : Value} {xs : List Value} (h : MoV m ob v n rl W r) (ho : W'.ownsRow W.heap.size 3 1 (.slice (some ⟨g, 0, none⟩) k c) k xs) (hB : Below W.heap.size W W') : MoV m true (.agg #[v0, v1, .slice (some ⟨g, 0, none⟩) k c, v3, v4, v5, v6]) n rl W' r := by
  obtain ⟨g', c', u0, u1, u3, u4, u5, u6, h1, h2, h3⟩ := h
  have hl := own_lt9 h2 g' rfl
  have hg := own_from ho
  refine ⟨g', c', u0, u1, u3, u4, u5, u6, h1, own_below9 h2 hB, fun _ e => ?_⟩
  have : g = g' := by simpa [rb, Value.ownBlock] using e
  omega
end
/-- The first k rows are laid over. -/
def orK (ol rl : List Nat) : Nat → List Nat
  | 0 => ol
  | k + 1 => (orK ol rl k).set k (ol.getD k 0 ||| rl.getD k 0)
theorem orK_len (ol rl : List Nat) : ∀ k, (orK ol rl k).length = ol.length
  | 0 => rfl
  | k + 1 => by unfold orK; rw [List.length_set, orK_len ol rl k]
theorem orK_get (ol rl : List Nat) : ∀ k i, k ≤ ol.length → (orK ol rl k)[i]? = if i < k then some (ol.getD i 0 ||| rl.getD i 0) else ol[i]?
  | 0, i, _ => rfl
  | k + 1, i, hk => by
    unfold orK
    rw [List.getElem?_set]
    by_cases e : k = i
    · subst e
      rw [if_pos rfl, if_pos (by rw [orK_len]; omega), if_pos (by omega)]
    · rw [if_neg e, orK_get ol rl k i (by omega)]
      by_cases e2 : i < k
      · rw [if_pos e2, if_pos (by omega)]
      · rw [if_neg e2, if_neg (by omega)]
theorem orK_all {ol rl : List Nat} (h : ol.length = rl.length) : orK ol rl ol.length = orR ol rl := by
  apply List.ext_getElem?
  intro i
  rw [orK_get ol rl _ i (Nat.le_refl _)]
  by_cases hi : i < ol.length
  · rw [if_pos hi]
    have hx := List.getElem?_eq_getElem (l := ol) (i := i) hi
    have hy := List.getElem?_eq_getElem (l := rl) (i := i) (by omega)
    rw [orR_get hx hy, List.getD_eq_getElem?_getD, List.getD_eq_getElem?_getD, hx, hy]; rfl
  · rw [if_neg hi, List.getElem?_eq_none (by omega), List.getElem?_eq_none (by rw [orR_len h]; omega)]
end Go.Proofs.YtflmllablfjfeaaDoor
