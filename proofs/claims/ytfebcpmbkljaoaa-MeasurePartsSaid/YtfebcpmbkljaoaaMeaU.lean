/- Proofs that are made of numbers, as data; proofs in memory, in blocks that a predicate names. -/
import Derived.Test.YtfebcpmbkljaoaaMeaT
namespace Go.Proofs.Ytfebcpmbkljaoaa
open Go.RowKit Go.HR
set_option linter.unusedVariables false
set_option linter.unusedSimpArgs false
set_option linter.unusedSectionVars false
/-- Premises in memory, in blocks that S names. -/
inductive IsPq (S : Nat → Prop) (W : World) : SL → List PT → Prop
  | nil (a : Option Addr) (c : Nat) : IsPq S W ⟨a, 0, c⟩ []
  | row (g o c : Nat) (ts : List PT) (sv : Nat → SL) (hg : S g) (hc : ∀ (i : Nat) t, ts[i]? = some t → ∀ (j : Nat) v, (t.vals (sv i))[j]? = some v → W.cell? ⟨g, o + i * 8 + j, none⟩ = some v)
      (hs : ∀ (i : Nat) t, ts[i]? = some t → IsPq S W (sv i) t.subs) : IsPq S W ⟨some ⟨g, o, none⟩, ts.length, c⟩ ts
theorem IsPq.turn {S T : Nat → Prop} {W W' : World} {s : SL} {ts : List PT} (h : IsPq S W s ts) (hb : ∀ k, S k → T k ∧ W'.heap[k]? = W.heap[k]?) : IsPq T W' s ts := by
  induction h with
  | nil a c => exact .nil a c
  | row g o c ts sv hg hc hs ih => exact .row g o c ts sv (hb g hg).1 (fun i t ht j v hv => (World.cell?_of_block (hb g hg).2).trans (hc i t ht j v hv)) ih
theorem IsPq.ps {S : Nat → Prop} {n0 : Nat} {W : World} {s : SL} {ts : List PT} (h : IsPq S W s ts) (hb : ∀ k, S k → k < n0) : IsPs n0 W s ts := by
  induction h with
  | nil a c => exact .nil a c
  | row g o c ts sv hg hc hs ih => exact .row g o c ts sv (hb g hg) hc ih
theorem IsPs.pq {n0 : Nat} {W : World} {s : SL} {ts : List PT} (h : IsPs n0 W s ts) : IsPq (fun k => k < n0) W s ts := by
  induction h with
  | nil a c => exact .nil a c
  | row g o c ts sv hg hc hs ih => exact .row g o c ts sv hg hc ih
theorem IsPq.len {S : Nat → Prop} {W : World} {s : SL} {ts : List PT} (h : IsPq S W s ts) : s.n = ts.length := by cases h <;> rfl
/-- A row of proofs, flat. -/
def flatP (xs : List (PT × SL)) : List Value := xs.flatMap fun x => (x.1.arr x.2).toList
theorem flatP_on (xs : List (PT × SL)) (x : PT × SL) : flatP (xs ++ [x]) = flatP xs ++ (x.1.arr x.2).toList := by simp [flatP]
/-- A row of the call's own, as premises. -/
theorem pq_row {S : Nat → Prop} {W : World} {base : Nat} {g n c : Nat} {xs : List (PT × SL)} (h : W.ownsRow base 30 8 (.slice (some ⟨g, 0, none⟩) n c) xs.length (flatP xs)) (hS : S g) (hs : ∀ x ∈ xs, IsPq S W x.2 x.1.subs) : IsPq S W ⟨some ⟨g, 0, none⟩, n, c⟩ (xs.map (·.1)) := by
  have hn : n = (xs.map (·.1)).length := by
    rcases h.2 with ⟨h0, h1⟩ | ⟨g', cap, cur, hv, _⟩
    · cases h0
    · simp only [Value.slice.injEq] at hv; rw [hv.2.1]; simp
  subst hn
  have hcell := h.cells (g := g) (by rfl)
  refine .row g 0 c (xs.map (·.1)) (fun i => ((xs[i]?).map (·.2)).getD SL.nil) hS (fun i t ht j v hv => ?_) (fun i t ht => ?_)
  · rw [List.getElem?_map] at ht
    obtain ⟨x, hx, rfl⟩ := Option.map_eq_some_iff.1 ht
    have hj : j < 8 := by
      obtain ⟨hl, _⟩ := List.getElem?_eq_some_iff.1 hv
      exact hl
    have h1 := hcell (i * 8 + j) v (by
      rw [flatP, flat_get (fun x : PT × SL => (x.1.arr x.2).toList) 8 (fun x => rfl) xs i j x hx hj]
      simp only [hx, Option.map_some, Option.getD_some] at hv
      exact hv)
    rw [add_zero_at] at h1
    rw [show 0 + i * 8 + j = i * 8 + j by omega]
    exact h1
  · rw [List.getElem?_map] at ht
    obtain ⟨x, hx, rfl⟩ := Option.map_eq_some_iff.1 ht
    simp only [hx, Option.map_some, Option.getD_some]
    exact hs x (List.mem_of_getElem? hx)

/-! ### what Built makes -/
def leafT (n : Nat) : PT := .node ⟨#[]⟩ { PO.nil with label := n } []
/-- So many parts, one behind the other. -/
def mkA (rec : Nat → PT × Nat) : Nat → Nat → List PT × Nat
  | 0, i => ([], i)
  | k + 1, i => ((mkA rec k i).1 ++ [(rec (mkA rec k i).2).1], (rec (mkA rec k i).2).2)
/-- The proof that is made in so many levels from number i on, and the number behind it. -/
def mkT (L : List Nat) : Nat → Nat → PT × Nat
  | 0, i => if i < L.length ∧ i < 60 then (if L.getD i 0 % 6 = 0 then (holeT, i + 1) else (leafT (L.getD i 0), i + 1)) else (holeT, i)
  | f + 1, i => if i < L.length ∧ i < 60 then (if L.getD i 0 % 6 = 0 then (holeT, i + 1) else if L.getD i 0 % 6 = 1 then (leafT (L.getD i 0), i + 1) else
      (.node ruleR PO.nil (mkA (mkT L f) (L.getD i 0 % 6 - 2) (i + 1)).1, (mkA (mkT L f) (L.getD i 0 % 6 - 2) (i + 1)).2)) else (holeT, i)
def builtT (L : List Nat) : PT := (mkT L 12 0).1
theorem mkA_len (rec : Nat → PT × Nat) : ∀ k i, (mkA rec k i).1.length = k
  | 0, i => rfl
  | k + 1, i => by simp [mkA, mkA_len rec k i]
theorem sizeF_append : ∀ ts us : List PT, sizeF (ts ++ us) = sizeF ts + sizeF us
  | [], us => by simp [sizeF]
  | t :: ts, us => by simp only [List.cons_append, sizeF, sizeF_append ts us]; omega
theorem mkA_mem {rec : Nat → PT × Nat} : ∀ {k i t}, t ∈ (mkA rec k i).1 → ∃ j, t = (rec j).1
  | 0, i, t, h => by simp [mkA] at h
  | k + 1, i, t, h => by
    simp only [mkA, List.mem_append, List.mem_singleton] at h
    rcases h with h | h
    · exact mkA_mem h
    · exact ⟨_, h⟩
theorem mkT_cases (L : List Nat) (f i : Nat) : mkT L f i = (holeT, i) ∨ (i < 60 ∧ mkT L f i = (holeT, i + 1)) ∨ (i < 60 ∧ ∃ n, mkT L f i = (leafT n, i + 1)) ∨ (i < 60 ∧ ∃ f' k, f = f' + 1 ∧ k ≤ 3 ∧ mkT L f i = (.node ruleR PO.nil (mkA (mkT L f') k (i + 1)).1, (mkA (mkT L f') k (i + 1)).2)) := by
  cases f with
  | zero =>
    simp only [mkT]
    split
    · rename_i h
      split
      · exact .inr (.inl ⟨h.2, rfl⟩)
      · exact .inr (.inr (.inl ⟨h.2, _, rfl⟩))
    · exact .inl rfl
  | succ f =>
    simp only [mkT]
    split
    · rename_i h
      split
      · exact .inr (.inl ⟨h.2, rfl⟩)
      · split
        · exact .inr (.inr (.inl ⟨h.2, _, rfl⟩))
        · exact .inr (.inr (.inr ⟨h.2, f, _, rfl, by omega, rfl⟩))
    · exact .inl rfl
theorem mkA_at {rec : Nat → PT × Nat} (hr : ∀ i, i ≤ 60 → i ≤ (rec i).2 ∧ (rec i).2 ≤ 60 ∧ sizeT (rec i).1 ≤ 1 + 3 * ((rec i).2 - i)) : ∀ k i, i ≤ 60 → i ≤ (mkA rec k i).2 ∧ (mkA rec k i).2 ≤ 60 ∧ sizeF (mkA rec k i).1 ≤ k + 3 * ((mkA rec k i).2 - i)
  | 0, i, h => by simp [mkA, sizeF]; exact h
  | k + 1, i, h => by
    obtain ⟨h1, h2, h3⟩ := mkA_at hr k i h
    obtain ⟨g1, g2, g3⟩ := hr _ h2
    simp only [mkA, sizeF_append, sizeF]
    omega
theorem mkT_at (L : List Nat) : ∀ f i, i ≤ 60 → i ≤ (mkT L f i).2 ∧ (mkT L f i).2 ≤ 60 ∧ sizeT (mkT L f i).1 ≤ 1 + 3 * ((mkT L f i).2 - i) := by
  intro f
  induction f with
  | zero =>
    intro i hi
    rcases mkT_cases L 0 i with h | ⟨h0, h⟩ | ⟨h0, n, h⟩ | ⟨h0, f', k, hf, _⟩
    · rw [h]; simp [holeT, sizeT, sizeF]; omega
    · rw [h]; simp [holeT, sizeT, sizeF]; omega
    · rw [h]; simp [leafT, sizeT, sizeF]; omega
    · cases hf
  | succ f ih =>
    intro i hi
    rcases mkT_cases L (f + 1) i with h | ⟨h0, h⟩ | ⟨h0, n, h⟩ | ⟨h0, f', k, hf, hk, h⟩
    · rw [h]; simp [holeT, sizeT, sizeF]; omega
    · rw [h]; simp [holeT, sizeT, sizeF]; omega
    · rw [h]; simp [leafT, sizeT, sizeF]; omega
    · cases hf
      obtain ⟨h1, h2, h3⟩ := mkA_at ih k (i + 1) (by omega)
      rw [h]; simp only [sizeT]; omega
/-- Every step of a proof that is made in so many levels. -/
theorem mkT_steps (L : List Nat) : ∀ f i pl w d, d ∈ stepsT pl w (mkT L f i).1 → d.pl.length ≤ pl.length + f ∧ d.t.subs.length ≤ 3 ∧ (d.t.rule = ⟨#[63]⟩ → d.t.subs = []) := by
  have hnil : ∀ (t : PT) f pl w d, t.subs = [] → d ∈ stepsT pl w t → d.pl.length ≤ pl.length + f ∧ d.t.subs.length ≤ 3 ∧ (d.t.rule = ⟨#[63]⟩ → d.t.subs = []) := by
    intro t f pl w d ht hd
    rw [stepsT_eq, ht] at hd
    simp [stepsF] at hd
    subst hd
    simp [ht]
  intro f
  induction f with
  | zero =>
    intro i pl w d hd
    rcases mkT_cases L 0 i with h | ⟨h0, h⟩ | ⟨h0, n, h⟩ | ⟨h0, f', k, hf, _⟩
    · rw [h] at hd; exact hnil _ _ _ _ _ rfl hd
    · rw [h] at hd; exact hnil _ _ _ _ _ rfl hd
    · rw [h] at hd; exact hnil _ _ _ _ _ rfl hd
    · cases hf
  | succ f ih =>
    intro i pl w d hd
    rcases mkT_cases L (f + 1) i with h | ⟨h0, h⟩ | ⟨h0, n, h⟩ | ⟨h0, f', k, hf, hk, h⟩
    · rw [h] at hd; exact hnil _ _ _ _ _ rfl hd
    · rw [h] at hd; exact hnil _ _ _ _ _ rfl hd
    · rw [h] at hd; exact hnil _ _ _ _ _ rfl hd
    · cases hf
      rw [h, stepsT_eq] at hd
      simp only [PT.subs, List.mem_cons] at hd
      rcases hd with rfl | hd
      · refine ⟨by simp, by simp [PT.subs, mkA_len]; exact hk, fun e => ?_⟩
        exact absurd e (by simp only [PT.rule, ruleR]; decide)
      · have hF : ∀ (ts : List PT) (w q : Nat), (∀ t ∈ ts, ∃ j, t = (mkT L f j).1) → ∀ d ∈ stepsF pl w q ts, d.pl.length ≤ pl.length + (f + 1) ∧ d.t.subs.length ≤ 3 ∧ (d.t.rule = ⟨#[63]⟩ → d.t.subs = []) := by
          intro ts
          induction ts with
          | nil => intro w q _ d hd; simp [stepsF] at hd
          | cons t ts iht =>
            intro w q hts d hd
            simp only [stepsF, List.mem_append] at hd
            rcases hd with hd | hd
            · obtain ⟨j, rfl⟩ := hts t (by simp)
              have := ih j (pl ++ [q]) w d hd
              simp only [List.length_append, List.length_singleton] at this
              exact ⟨by omega, this.2⟩
            · exact iht w (q + 1) (fun t ht => hts t (by simp [ht])) d hd
        exact hF _ _ _ (fun t ht => mkA_mem ht) d hd
theorem built_meas (L : List Nat) : measT (builtT L) = true := by
  have h := mkT_at L 12 0 (by omega)
  simp only [measT, Bool.and_eq_true, decide_eq_true_eq, List.all_eq_true]
  refine ⟨by unfold builtT; omega, fun d hd => ?_⟩
  have hs := mkT_steps L 12 0 [] whole d hd
  simp only [List.length_nil] at hs
  refine okD_on (by omega) (by omega) ?_
  by_cases hr : d.t.rule = ⟨#[63]⟩
  · right; rw [hs.2.2 hr]; rfl
  · exact .inl hr
theorem built_size (L : List Nat) : sizeT (builtT L) ≤ 300 := meas_size (built_meas L)
end Go.Proofs.Ytfebcpmbkljaoaa
