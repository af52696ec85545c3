/- Plain laws of MeasureGoals: goals are the holes, in order; a goal's place leads to it, with its weight. -/
import Derived.Test.YtfebcpmbkljaoaaMeaY
namespace Go.Proofs.Ytfebcpmbkljaoaa
open Go.RowKit Go.HR
set_option linter.unusedVariables false
set_option linter.unusedSimpArgs false
set_option linter.unusedSectionVars false
theorem badD_nil (d : StepD) : badD [] d = false := by simp [badD]
mutual
theorem goals_sub (bad : StepD → Bool) (pl : List Nat) (w : Nat) : ∀ t : PT, ((goalsT bad pl w t).1).Sublist (stepsT pl w t)
  | .node r o s => by
    simp only [goalsT, stepsT]
    split
    · exact List.singleton_sublist.2 (by simp)
    · exact (goalsF_sub bad pl _ 0 s).cons _
theorem goalsF_sub (bad : StepD → Bool) (pl : List Nat) (w : Nat) (i : Nat) : ∀ ts : List PT, ((goalsF bad pl w i ts).1).Sublist (stepsF pl w i ts)
  | [] => by simp [goalsF, stepsF]
  | t :: ts => by
    simp only [goalsF, stepsF]
    exact (goals_sub bad (pl ++ [i]) w t).append (goalsF_sub bad pl w (i + 1) ts)
end
mutual
theorem goals_holes (pl : List Nat) (w : Nat) : ∀ t : PT, (∀ d ∈ stepsT pl w t, d.t.rule = ⟨#[63]⟩ → d.t.subs = []) → (goalsT (badD []) pl w t).1.length = holesT t
  | .node r o s, h => by
    have h0 := h ⟨pl, w, .node r o s⟩ (by simp [stepsT])
    simp only [goalsT, holesT, badD_nil, Bool.false_or]
    by_cases hr : r = ⟨#[63]⟩
    · have hs : s = [] := h0 hr
      subst hs
      simp [hr, holesF]
    · simp only [hr, decide_false, Bool.false_eq_true, if_false, Nat.zero_add]
      exact goalsF_holes pl _ 0 s (fun d hd => h d (by simp [stepsT, hd]))
theorem goalsF_holes (pl : List Nat) (w : Nat) (i : Nat) : ∀ ts : List PT, (∀ d ∈ stepsF pl w i ts, d.t.rule = ⟨#[63]⟩ → d.t.subs = []) → (goalsF (badD []) pl w i ts).1.length = holesF ts
  | [], _ => by simp [goalsF, holesF]
  | t :: ts, h => by
    simp only [goalsF, List.length_append, holesF]
    rw [goals_holes (pl ++ [i]) w t (fun d hd => h d (by simp [stepsF, hd])), goalsF_holes pl w (i + 1) ts (fun d hd => h d (by simp [stepsF, hd]))]
end
mutual
theorem goals_rule (pl : List Nat) (w : Nat) : ∀ (t : PT) (d : StepD), d ∈ (goalsT (badD []) pl w t).1 → d.t.rule = ⟨#[63]⟩
  | .node r o s, d, h => by
    simp only [goalsT, badD_nil, Bool.false_or] at h
    split at h
    · rename_i hr
      simp only [List.mem_singleton] at h; subst h
      exact of_decide_eq_true hr
    · exact goalsF_rule pl _ 0 s d h
theorem goalsF_rule (pl : List Nat) (w : Nat) (i : Nat) : ∀ (ts : List PT) (d : StepD), d ∈ (goalsF (badD []) pl w i ts).1 → d.t.rule = ⟨#[63]⟩
  | [], d, h => by simp [goalsF] at h
  | t :: ts, d, h => by
    simp only [goalsF, List.mem_append] at h
    rcases h with h | h
    · exact goals_rule _ w t d h
    · exact goalsF_rule pl w (i + 1) ts d h
end
/-- Where a place leads to, and what its weight is. -/
def walkT (t : PT) (w : Nat) : List Nat → Option (PT × Nat)
  | [] => some (t, w)
  | k :: ks => match t.subs[k]? with
    | some q => walkT q (w / (2 * t.subs.length)) ks
    | none => none
theorem walkT_cons {t : PT} {w k : Nat} {ks : List Nat} {r : PT × Nat} (h : walkT t w (k :: ks) = some r) : ∃ q, t.subs[k]? = some q ∧ walkT q (w / (2 * t.subs.length)) ks = some r := by
  simp only [walkT] at h
  split at h
  · rename_i q hq; exact ⟨q, hq, h⟩
  · cases h
mutual
theorem steps_walk (pl : List Nat) (w : Nat) : ∀ (t : PT) (d : StepD), d ∈ stepsT pl w t → ∃ q, d.pl = pl ++ q ∧ walkT t w q = some (d.t, d.wt)
  | .node r o s, d, h => by
    simp only [stepsT, List.mem_cons] at h
    rcases h with rfl | h
    · exact ⟨[], by simp, rfl⟩
    · obtain ⟨j, q, u, _, hu, he, hw⟩ := stepsF_walk pl (w / (2 * s.length)) 0 s d h
      refine ⟨j :: q, he, ?_⟩
      simp only [walkT, PT.subs]
      rw [Nat.sub_zero] at hu
      rw [hu]
      exact hw
theorem stepsF_walk (pl : List Nat) (w : Nat) (i : Nat) : ∀ (ts : List PT) (d : StepD), d ∈ stepsF pl w i ts → ∃ j q u, i ≤ j ∧ ts[j - i]? = some u ∧ d.pl = pl ++ j :: q ∧ walkT u w q = some (d.t, d.wt)
  | [], d, h => by simp [stepsF] at h
  | t :: ts, d, h => by
    simp only [stepsF, List.mem_append] at h
    rcases h with h | h
    · obtain ⟨q, he, hw⟩ := steps_walk (pl ++ [i]) w t d h
      exact ⟨i, q, t, Nat.le_refl _, by simp, by rw [he]; simp, hw⟩
    · obtain ⟨j, q, u, hj, hu, he, hw⟩ := stepsF_walk pl w (i + 1) ts d h
      refine ⟨j, q, u, by omega, ?_, he, hw⟩
      rw [show j - i = (j - (i + 1)) + 1 by omega]
      simpa using hu
end
/-- The goals of a proof that Built makes. -/
def goalsB (L : List Nat) : List StepD := goalsL (builtT L) []
theorem built_code (L : List Nat) : codeL (builtT L) [] = 0 := by
  unfold codeL
  rw [if_pos (built_meas L), if_pos (by simp)]
theorem goalsB_eq (L : List Nat) : goalsB L = (goalsT (badD []) [] whole (builtT L)).1 := by
  unfold goalsB goalsL
  rw [if_pos (built_code L)]
theorem goalsB_holes (L : List Nat) : (goalsB L).length = holesT (builtT L) := by
  rw [goalsB_eq]
  exact goals_holes [] whole _ fun d hd => (mkT_steps L 12 0 [] whole d hd).2.2
theorem goalsB_sorted (L : List Nat) : (goalsB L).Pairwise (fun a b => ordI (plD a) (plD b) < 0) := by
  rw [goalsB_eq]
  exact (steps_sorted [] whole (builtT L)).sublist (goals_sub _ _ _ _)
theorem goalsB_mem {L : List Nat} {d : StepD} (h : d ∈ goalsB L) : d.t.rule = ⟨#[63]⟩ ∧ walkT (builtT L) whole d.pl = some (d.t, d.wt) ∧ d.pl.length ≤ 12 := by
  rw [goalsB_eq] at h
  have hs := (goals_sub _ _ _ _).subset h
  obtain ⟨q, he, hw⟩ := steps_walk [] whole _ d hs
  rw [List.nil_append] at he
  refine ⟨goals_rule _ _ _ _ h, by rw [he]; exact hw, ?_⟩
  have := (mkT_steps L 12 0 [] whole d hs).1
  simpa using this
theorem goalsB_len (L : List Nat) : (goalsB L).length ≤ 300 := len_goalsL _ _
end Go.Proofs.Ytfebcpmbkljaoaa
