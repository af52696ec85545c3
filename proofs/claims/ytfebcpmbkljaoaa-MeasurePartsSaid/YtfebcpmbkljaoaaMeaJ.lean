/- Plain laws: the places of the steps are strictly increasing; what look computes, by a scan. -/
import Derived.Test.YtfebcpmbkljaoaaMeaI
namespace Go.Proofs.Ytfebcpmbkljaoaa
set_option linter.unusedVariables false
set_option linter.unusedSimpArgs false
def plD (d : StepD) : List Int := d.pl.map fun n : Nat => (n : Int)
theorem ordI_pre : ∀ (p q r : List Int), ordI (p ++ q) (p ++ r) = ordI q r
  | [], q, r => rfl
  | x :: p, q, r => by simp [ordI, ordI_pre p q r, Int.lt_irrefl]
theorem ordI_nil {q : List Int} (h : q ≠ []) : ordI [] q < 0 := by
  cases q with
  | nil => exact absurd rfl h
  | cons x q => simp [ordI]
theorem ordI_head {x y : Int} (h : x < y) (q r : List Int) : ordI (x :: q) (y :: r) < 0 := by simp [ordI, h]
theorem ordI_trans : ∀ {a b c : List Int}, ordI a b < 0 → ordI b c < 0 → ordI a c < 0
  | [], [], c, h, _ => by simp [ordI] at h
  | [], _ :: _, [], _, h => by simp [ordI] at h
  | [], _ :: _, _ :: _, _, _ => by simp [ordI]
  | _ :: _, [], c, h, _ => by simp [ordI] at h
  | _ :: _, _ :: _, [], _, h => by simp [ordI] at h
  | x :: a, y :: b, z :: c, h1, h2 => by
    simp only [ordI] at h1 h2 ⊢
    split at h1 <;> split at h2
    · rw [if_pos (by omega)]; decide
    · split at h2
      · omega
      · rw [if_pos (by omega)]; decide
    · split at h1
      · omega
      · rw [if_pos (by omega)]; decide
    · split at h1
      · omega
      · split at h2
        · omega
        · rw [if_neg (by omega), if_neg (by omega)]; exact ordI_trans h1 h2
theorem ordI_irrefl (a : List Int) : ¬ ordI a a < 0 := by rw [(ordI_zero a a).2 rfl]; decide
theorem ordI_asymm {a b : List Int} (h : ordI a b < 0) : ¬ ordI b a < 0 := fun h2 => ordI_irrefl a (ordI_trans h h2)
mutual
theorem steps_pre (pl : List Nat) (w : Nat) : ∀ (t : PT) (d : StepD), d ∈ stepsT pl w t → ∃ q, d.pl = pl ++ q
  | .node r o s, d, h => by
    simp only [stepsT, List.mem_cons] at h
    rcases h with rfl | h
    · exact ⟨[], by simp⟩
    · obtain ⟨j, q, _, e⟩ := stepsF_pre pl _ 0 s d h
      exact ⟨j :: q, e⟩
theorem stepsF_pre (pl : List Nat) (w : Nat) (i : Nat) : ∀ (ts : List PT) (d : StepD), d ∈ stepsF pl w i ts → ∃ j q, i ≤ j ∧ d.pl = pl ++ j :: q
  | [], d, h => by simp [stepsF] at h
  | t :: ts, d, h => by
    simp only [stepsF, List.mem_append] at h
    rcases h with h | h
    · obtain ⟨q, e⟩ := steps_pre (pl ++ [i]) w t d h
      exact ⟨i, q, Nat.le_refl _, by rw [e]; simp⟩
    · obtain ⟨j, q, hj, e⟩ := stepsF_pre pl w (i + 1) ts d h
      exact ⟨j, q, by omega, e⟩
end
mutual
theorem steps_sorted (pl : List Nat) (w : Nat) : ∀ t : PT, (stepsT pl w t).Pairwise (fun a b => ordI (plD a) (plD b) < 0)
  | .node r o s => by
    simp only [stepsT, List.pairwise_cons]
    refine ⟨fun d hd => ?_, stepsF_sorted pl _ 0 s⟩
    obtain ⟨j, q, _, e⟩ := stepsF_pre pl _ 0 s d hd
    simp only [plD, e, List.map_append]
    have := ordI_pre (pl.map fun n : Nat => (n : Int)) [] ((j :: q).map fun n : Nat => (n : Int))
    rw [List.append_nil] at this
    rw [this]
    exact ordI_nil (by simp)
theorem stepsF_sorted (pl : List Nat) (w : Nat) (i : Nat) : ∀ ts : List PT, (stepsF pl w i ts).Pairwise (fun a b => ordI (plD a) (plD b) < 0)
  | [] => by simp [stepsF]
  | t :: ts => by
    simp only [stepsF, List.pairwise_append]
    refine ⟨steps_sorted (pl ++ [i]) w t, stepsF_sorted pl w (i + 1) ts, fun a ha b hb => ?_⟩
    obtain ⟨q, e⟩ := steps_pre (pl ++ [i]) w t a ha
    obtain ⟨j, r, hj, e2⟩ := stepsF_pre pl w (i + 1) ts b hb
    simp only [plD, e, e2, List.map_append, List.append_assoc, ordI_pre]
    exact ordI_head (by simp; omega) _ _
end
/-- Is one of the places that of a step? -/
def badD (ws : List (List Int)) (d : StepD) : Bool := decide (plD d ∈ ws)
theorem dropWhile_len {α : Type} (p : α → Bool) (l : List α) : (l.dropWhile p).length ≤ l.length := by
  induction l with
  | nil => simp
  | cons a l ih => simp only [List.dropWhile]; split <;> simp; omega
/-- The goals among the steps, and how many others count. -/
def scanS (bad : StepD → Bool) : List StepD → List StepD × Nat
  | [] => ([], 0)
  | d :: ds =>
    if bad d || decide (d.t.rule = ⟨#[63]⟩) then
      (d :: (scanS bad (ds.dropWhile fun e => inI (plD e) (plD d))).1, (scanS bad (ds.dropWhile fun e => inI (plD e) (plD d))).2)
    else ((scanS bad ds).1, (scanS bad ds).2 + 1)
termination_by l => l.length
decreasing_by
  · have := dropWhile_len (fun e => inI (plD e) (plD d)) ds; simp; omega
  · simp
theorem scanS_on {bad : StepD → Bool} {d : StepD} {ds : List StepD} (h : (bad d || decide (d.t.rule = ⟨#[63]⟩)) = true) :
    scanS bad (d :: ds) = (d :: (scanS bad (ds.dropWhile fun e => inI (plD e) (plD d))).1, (scanS bad (ds.dropWhile fun e => inI (plD e) (plD d))).2) := by rw [scanS, if_pos h]
theorem scanS_off {bad : StepD → Bool} {d : StepD} {ds : List StepD} (h : (bad d || decide (d.t.rule = ⟨#[63]⟩)) = false) :
    scanS bad (d :: ds) = ((scanS bad ds).1, (scanS bad ds).2 + 1) := by rw [scanS, if_neg (by rw [h]; decide)]
theorem scanS_nil (bad : StepD → Bool) : scanS bad [] = ([], 0) := by rw [scanS]
end Go.Proofs.Ytfebcpmbkljaoaa
