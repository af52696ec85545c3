/- The plain law of MeasureGrows. -/
import Derived.Test.YtfebcpmbkljaoaaPick
namespace Go.Proofs.Ytfebcpmbkljaoaa
open Go.RowKit Go.HR
set_option linter.unusedVariables false
set_option linter.unusedSimpArgs false
set_option linter.unusedSectionVars false
/-- A step with so many holes. -/
def stepK (k : Nat) : PT := .node ruleR PO.nil (List.replicate k holeT)
theorem goalsF_holesK (pl : List Nat) (w : Nat) : ∀ (k i : Nat), (goalsF (badD []) pl w i (List.replicate k holeT)).1.length = k ∧ sumW (goalsF (badD []) pl w i (List.replicate k holeT)).1 = k * w ∧ (goalsF (badD []) pl w i (List.replicate k holeT)).2 = 0
  | 0, i => by simp [goalsF, sumW]
  | k + 1, i => by
    obtain ⟨h1, h2, h3⟩ := goalsF_holesK pl w k (i + 1)
    have hh : goalsT (badD []) (pl ++ [i]) w holeT = ([⟨pl ++ [i], w, holeT⟩], 0) := by
      simp only [holeT, goalsT, badD_nil, Bool.false_or, decide_true, if_true]
    rw [List.replicate_succ]
    simp only [goalsF, hh]
    refine ⟨by simp [h1, Nat.add_comm], ?_, by omega⟩
    simp only [sumW, List.map_append, List.sum_append, List.map_cons, List.map_nil, List.sum_cons, List.sum_nil] at h2 ⊢
    rw [h2, Nat.add_mul]; omega
theorem ruleR_ne : ¬ ruleR = ⟨#[63]⟩ := by simp only [ruleR]; decide
theorem goals_stepK (pl : List Nat) (w k : Nat) : (goalsT (badD []) pl w (stepK k)).1.length = k ∧ sumW (goalsT (badD []) pl w (stepK k)).1 = k * (w / (2 * k)) ∧ (goalsT (badD []) pl w (stepK k)).2 = 1 := by
  obtain ⟨h1, h2, h3⟩ := goalsF_holesK pl (w / (2 * k)) k 0
  simp only [stepK, goalsT, badD_nil, Bool.false_or, ruleR_ne, decide_false, Bool.false_eq_true, if_false, List.length_replicate]
  exact ⟨h1, h2, by omega⟩
theorem size_holesK : ∀ k, sizeF (List.replicate k holeT) = k
  | 0 => rfl
  | k + 1 => by rw [List.replicate_succ]; simp only [sizeF, size_holesK k]; simp [holeT, sizeT, sizeF]; omega
theorem stepK_size (k : Nat) : sizeT (stepK k) = 1 + k := by simp only [stepK, sizeT, size_holesK]
theorem stepK_plain (k : Nat) : plainT (stepK k) := ⟨rfl, rfl, rfl, (plainF_iff _).2 fun t ht => by rw [(List.mem_replicate.1 ht).2]; exact plain_hole⟩
theorem stepK_fit (k : Nat) (h : k ≤ 8) : fitT 1 (stepK k) := by
  simp only [stepK, fitT, List.length_replicate]
  exact ⟨h, fun e => absurd e ruleR_ne, (fitF_iff _ _).2 fun t ht => by rw [(List.mem_replicate.1 ht).2]; exact ⟨Nat.le_refl _, fit_hole _⟩⟩
def restV (n S : Nat) : Nat := if n = 0 then 1152921504606846976 else min (1152921504606846976 - S) 1152921504606846975
def permV (n S : Nat) : Nat := if n = 0 then 1000 else min (1000 * restV n S / 1152921504606846976) 999
theorem restN_eq (ds : List StepD) : restN ds = restV ds.length (sumW ds) := by
  unfold restN restV whole
  simp only [List.length_eq_zero_iff]
  try rfl
theorem progL_eq {t : PT} (h : codeL t [] = 0) : progL t [] = restV (goalsL t []).length (sumW (goalsL t [])) := by
  rw [progL, if_pos h, restN_eq]
theorem permL_eq {t : PT} (h : codeL t [] = 0) : permL t [] = permV (goalsL t []).length (sumW (goalsL t [])) := by
  rw [permL, if_pos h, permV, restN_eq]
  simp only [List.length_eq_zero_iff]
theorem code_meas {t : PT} (h : measT t = true) : codeL t [] = 0 := by
  unfold codeL
  rw [if_pos h, if_pos (by simp)]
/-- What becomes of a proof in which a goal is replaced by a step with k goals. -/
theorem grow_law {L : List Nat} {d : StepD} (hd : d ∈ goalsB L) {k : Nat} (hk : k ≤ 8) :
    ∃ q, withR (builtT L) (stepK k) (plD d) = (0, q) ∧ codeL q [] = 0 ∧ sizeT q ≤ 300 ∧ (goalsL q []).length + 1 = (goalsB L).length + k ∧ sumW (goalsL q []) + d.wt = sumW (goalsB L) + k * (d.wt / (2 * k)) ∧ countL q [] = countL (builtT L) [] + 1 ∧ d.wt ≤ sumW (goalsB L) := by
  obtain ⟨hr, hw, hp⟩ := goalsB_mem hd
  obtain ⟨q, hq, hfit, hsz, _⟩ := replT_walk (built_fit L) hw (stepK_fit k hk)
  have hpl : plD d = natI d.pl := rfl
  have hs1 := built_size2 L
  rw [stepK_size] at hsz
  have hsz2 : sizeT q ≤ 300 := by have := sizeT_pos d.t; omega
  have hmq := fit_meas hfit (by omega) hsz2
  have hcq := code_meas hmq
  obtain ⟨A, B, hA, hB⟩ := goals_repl (u := stepK k) [] (built_fit L) hw hr
  obtain ⟨hB1, hB2⟩ := hB q hq
  obtain ⟨g1, g2, g3⟩ := goals_stepK ([] ++ d.pl) d.wt k
  have hgb := goalsB_eq L
  rw [hA] at hgb
  have hgq : goalsL q [] = A ++ (goalsT (badD []) ([] ++ d.pl) d.wt (stepK k)).1 ++ B := by
    unfold goalsL; rw [if_pos hcq]; exact hB1
  refine ⟨q, ?_, hcq, hsz2, ?_, ?_, ?_, ?_⟩
  · rw [hpl]; unfold withR; rw [if_pos (built_meas L), hq]; simp only [hmq, if_true]
  · rw [hgq, hgb]; simp only [List.length_append, g1, List.length_singleton]; omega
  · rw [hgq, hgb]
    simp only [sumW, List.map_append, List.sum_append, List.map_cons, List.map_nil, List.sum_cons, List.sum_nil] at g2 ⊢
    omega
  · unfold countL
    rw [if_pos hcq, if_pos (built_code L)]
    have e1 : badD [] = badD [] := rfl
    rw [hB2, g3]
  · rw [hgb]
    simp only [sumW, List.map_append, List.sum_append, List.map_cons, List.map_nil, List.sum_cons, List.sum_nil]
    omega
/-- Progress grows. -/
theorem grow_num {n S n2 S2 wt k r : Nat} (hS : S ≤ 1152921504606846976) (hn : n2 + 1 = n + k) (h1 : S2 + wt = S + k * (wt / (2 * k))) (hw : wt ≤ S) (hr : r = k * (wt / (2 * k))) (hn0 : n ≠ 0) :
    restV n S ≤ restV n2 S2 ∧ (restV n S < restV n2 S2 ∨ wt ≤ 1) ∧ permV n S ≤ permV n2 S2 ∧ permV n S < 1000 ∧ (permV n2 S2 = 1000 ↔ n2 = 0) ∧ S2 ≤ 1152921504606846976 ∧ 2 * r ≤ wt := by
  have h2 : 2 * r ≤ wt := by
    rw [hr]
    by_cases hk : k = 0
    · subst hk; simp
    · have := Nat.div_mul_le_self wt (2 * k)
      have e : 2 * (k * (wt / (2 * k))) = wt / (2 * k) * (2 * k) := by
        rw [← Nat.mul_assoc, Nat.mul_comm]
      rw [e]; exact this
  rw [← hr] at h1
  have a1 : restV n S = min (1152921504606846976 - S) 1152921504606846975 := by unfold restV; rw [if_neg hn0]
  have a2 : n2 = 0 → restV n2 S2 = 1152921504606846976 := fun h => by unfold restV; rw [if_pos h]
  have a3 : n2 ≠ 0 → restV n2 S2 = min (1152921504606846976 - S2) 1152921504606846975 := fun h => by unfold restV; rw [if_neg h]
  have b1 : permV n S = min (1000 * restV n S / 1152921504606846976) 999 := by unfold permV; rw [if_neg hn0]
  have b2 : n2 = 0 → permV n2 S2 = 1000 := fun h => by unfold permV; rw [if_pos h]
  have b3 : n2 ≠ 0 → permV n2 S2 = min (1000 * restV n2 S2 / 1152921504606846976) 999 := fun h => by unfold permV; rw [if_neg h]
  have c1 : restV n S ≤ restV n2 S2 := by
    by_cases h0 : n2 = 0
    · rw [a1, a2 h0]; omega
    · rw [a1, a3 h0]; omega
  refine ⟨c1, ?_, ?_, by omega, ?_, by omega, h2⟩
  · by_cases h0 : n2 = 0
    · left; rw [a1, a2 h0]; omega
    · rw [a1, a3 h0]; omega
  · by_cases h0 : n2 = 0
    · rw [b1, b2 h0]; omega
    · rw [b1, b3 h0]; omega
  · by_cases h0 : n2 = 0
    · rw [b2 h0]; simp [h0]
    · rw [b3 h0]
      constructor
      · intro h; omega
      · intro h; exact absurd h h0
end Go.Proofs.Ytfebcpmbkljaoaa
