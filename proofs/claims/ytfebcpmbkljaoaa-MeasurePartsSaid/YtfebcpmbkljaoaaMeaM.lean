/- Plain law: the scan over the steps is a recursion over the proof. -/
import Derived.Test.YtfebcpmbkljaoaaMeaJ
namespace Go.Proofs.Ytfebcpmbkljaoaa
set_option linter.unusedVariables false
set_option linter.unusedSimpArgs false
mutual
/-- The goals of the part at a place, with a weight; and how many of its steps count. -/
def goalsT (bad : StepD → Bool) (pl : List Nat) (w : Nat) : PT → List StepD × Nat
  | .node r o s =>
    if bad ⟨pl, w, .node r o s⟩ || decide (r = ⟨#[63]⟩) then ([⟨pl, w, .node r o s⟩], 0)
    else ((goalsF bad pl (w / (2 * s.length)) 0 s).1, 1 + (goalsF bad pl (w / (2 * s.length)) 0 s).2)
def goalsF (bad : StepD → Bool) (pl : List Nat) (w : Nat) (i : Nat) : List PT → List StepD × Nat
  | [] => ([], 0)
  | t :: ts => ((goalsT bad (pl ++ [i]) w t).1 ++ (goalsF bad pl w (i + 1) ts).1, (goalsT bad (pl ++ [i]) w t).2 + (goalsF bad pl w (i + 1) ts).2)
end
theorem inI_nat (p o : List Nat) : inI (p.map fun n : Nat => (n : Int)) (o.map fun n : Nat => (n : Int)) = true ↔ o <+: p := by
  rw [inI_iff]
  constructor
  · rintro ⟨r, h⟩
    have h1 := congrArg (List.map Int.toNat) h
    rw [List.map_append, List.map_map, List.map_map] at h1
    have e : (Int.toNat ∘ fun n : Nat => (n : Int)) = id := by funext n; simp
    rw [e, List.map_id, List.map_id] at h1
    exact ⟨_, h1⟩
  · rintro ⟨r, rfl⟩; rw [List.map_append]; exact List.prefix_append _ _
theorem inD (e d : StepD) : inI (plD e) (plD d) = true ↔ d.pl <+: e.pl := inI_nat _ _
theorem dropWhile_append {α : Type} {p : α → Bool} : ∀ {l r : List α}, (∀ x ∈ l, p x = true) → (∀ x, r.head? = some x → p x = false) → (l ++ r).dropWhile p = r
  | [], [], _, _ => rfl
  | [], x :: r, _, h => List.dropWhile_cons_of_neg (by rw [h x rfl]; decide)
  | a :: l, r, h, h' => by
    rw [List.cons_append, List.dropWhile_cons_of_pos (h a (by simp))]
    exact dropWhile_append (fun x hx => h x (by simp [hx])) h'
theorem not_pre_of {pl q : List Nat} {i j : Nat} (h : i ≠ j) : ¬ pl ++ [i] <+: pl ++ j :: q := by
  intro hp
  rw [List.prefix_append_right_inj] at hp
  simp at hp; exact h hp
mutual
theorem scan_stepsT (bad : StepD → Bool) (pl : List Nat) (w : Nat) : ∀ (t : PT) (R : List StepD), (∀ e, R.head? = some e → ¬ pl <+: e.pl) →
    scanS bad (stepsT pl w t ++ R) = ((goalsT bad pl w t).1 ++ (scanS bad R).1, (goalsT bad pl w t).2 + (scanS bad R).2)
  | .node r o s, R, h => by
    simp only [stepsT, List.cons_append, goalsT]
    by_cases hg : (bad ⟨pl, w, .node r o s⟩ || decide (r = ⟨#[63]⟩)) = true
    · rw [if_pos hg, scanS_on hg]
      rw [dropWhile_append (fun x hx => (inD _ _).2 (by obtain ⟨j, q, _, e⟩ := stepsF_pre pl _ 0 s x hx; exact ⟨_, e.symm⟩)) (fun x hx => by
        cases hc : inI (plD x) (plD ⟨pl, w, .node r o s⟩) with
        | false => rfl
        | true => exact absurd ((inD _ _).1 hc) (h x hx))]
      simp
    · have hg' : (bad ⟨pl, w, .node r o s⟩ || decide (r = ⟨#[63]⟩)) = false := by simpa using hg
      rw [if_neg hg, scanS_off hg', scan_stepsF bad pl _ 0 s R (fun e he j _ hp => h e he (List.IsPrefix.trans (List.prefix_append _ _) hp))]
      simp only [Prod.mk.injEq, true_and]; omega
theorem scan_stepsF (bad : StepD → Bool) (pl : List Nat) (w : Nat) (i : Nat) : ∀ (ts : List PT) (R : List StepD), (∀ e, R.head? = some e → ∀ j, i ≤ j → ¬ pl ++ [j] <+: e.pl) →
    scanS bad (stepsF pl w i ts ++ R) = ((goalsF bad pl w i ts).1 ++ (scanS bad R).1, (goalsF bad pl w i ts).2 + (scanS bad R).2)
  | [], R, h => by simp [stepsF, goalsF]
  | t :: ts, R, h => by
    simp only [stepsF, List.append_assoc, goalsF]
    rw [scan_stepsT bad (pl ++ [i]) w t (stepsF pl w (i + 1) ts ++ R) (fun e he => ?_), scan_stepsF bad pl w (i + 1) ts R (fun e he j hj => h e he j (by omega))]
    · simp only [List.append_assoc, Prod.mk.injEq, true_and]; omega
    · cases hts : stepsF pl w (i + 1) ts with
      | nil => rw [hts, List.nil_append] at he; exact h e he i (Nat.le_refl _)
      | cons d ds =>
        rw [hts] at he; simp at he; subst he
        obtain ⟨j, q, hj, e2⟩ := stepsF_pre pl w (i + 1) ts d (by rw [hts]; simp)
        rw [e2]; exact not_pre_of (by omega)
end
theorem scan_all (bad : StepD → Bool) (pl : List Nat) (w : Nat) (t : PT) : scanS bad (stepsT pl w t) = goalsT bad pl w t := by
  have h := scan_stepsT bad pl w t [] (fun e he => by cases he)
  rw [List.append_nil] at h
  rw [h, scanS_nil]; simp
end Go.Proofs.Ytfebcpmbkljaoaa
