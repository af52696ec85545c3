/- The plain law of MeasureLimits. -/
import Derived.Test.YtfebcpmbkljaoaaFull
import Derived.Test.YtfebcpmbkljaoaaGrowp
import Derived.Test.YtfebcpmbkljaoaaMeaZ
import Derived.Test.YtfebcpmbkljaoaaWrP
namespace Go.Proofs.Ytfebcpmbkljaoaa
set_option linter.unusedVariables false
set_option linter.unusedSimpArgs false
set_option linter.unusedSectionVars false
def nestT : Nat → PT
  | 0 => holeT
  | n + 1 => .node ruleR PO.nil [nestT n]
def fulT : PT := builtT (List.replicate 60 4)
def duoT : PT := .node ruleR PO.nil [fulT, fulT]
def bigT (k : Nat) : PT := .node ruleR PO.nil (List.replicate k duoT)
def holeP : PT := .node ⟨#[63]⟩ PO.nil [holeT]
theorem meas_all {t : PT} (h : measT t = true) : sizeT t ≤ 300 ∧ ∀ d ∈ stepsT [] whole t, okD d = true := by
  unfold measT at h
  have h2 := Bool.and_eq_true_iff.1 h
  exact ⟨of_decide_eq_true h2.1, List.all_eq_true.1 h2.2⟩
theorem meas_top {t : PT} (h : measT t = true) : okD ⟨[], whole, t⟩ = true := (meas_all h).2 _ (by rw [stepsT_eq]; exact List.mem_cons_self)
theorem bad_hole : measT holeP = false := by
  rw [Bool.eq_false_iff]
  intro h
  have := meas_top h
  simp [okD, holeP, PT.subs, PT.rule] at this
theorem bad_nine : measT (stepK 9) = false := by
  rw [Bool.eq_false_iff]
  intro h
  have := meas_top h
  simp [okD, stepK, PT.subs, PT.rule] at this
theorem nest_deep : ∀ (n : Nat) (pl : List Nat) (w : Nat), ∃ d ∈ stepsT pl w (nestT n), d.pl.length = pl.length + n
  | 0, pl, w => ⟨⟨pl, w, nestT 0⟩, by rw [stepsT_eq]; exact List.mem_cons_self, rfl⟩
  | n + 1, pl, w => by
    obtain ⟨d, hd, hl⟩ := nest_deep n (pl ++ [0]) (w / (2 * 1))
    refine ⟨d, ?_, by simp at hl; omega⟩
    rw [stepsT_eq]
    simp only [nestT, PT.subs, List.length_singleton, stepsF, List.append_nil]
    exact List.mem_cons_of_mem _ hd
theorem bad_deep : measT (nestT 41) = false := by
  rw [Bool.eq_false_iff]
  intro h
  obtain ⟨d, hd, hl⟩ := nest_deep 41 [] whole
  have := okD_pl ((meas_all h).2 d hd)
  simp at hl; omega
theorem sizeF_rep (k : Nat) (t : PT) : sizeF (List.replicate k t) = k * sizeT t := by
  induction k with
  | zero => simp [sizeF]
  | succ k ih => rw [List.replicate_succ, sizeF, ih, Nat.add_mul]; omega
theorem ful_size : sizeT fulT = 69 := by decide +kernel
theorem two_size : sizeT duoT = 139 := by simp only [duoT, sizeT, sizeF, ful_size]
theorem big_size (k : Nat) : sizeT (bigT k) = 1 + k * 139 := by simp only [bigT, sizeT, sizeF_rep, two_size]
theorem bad_big : measT (bigT 8) = false := by
  rw [Bool.eq_false_iff]
  intro h
  have := (meas_all h).1
  rw [big_size] at this; omega
theorem bad_whole : measT (.node ruleR PO.nil [bigT 8, bigT 8]) = false := by
  rw [Bool.eq_false_iff]
  intro h
  have := (meas_all h).1
  simp only [sizeT, sizeF, big_size] at this; omega
theorem plain_two : plainT duoT := ⟨rfl, rfl, rfl, built_plain _, built_plain _, trivial⟩
theorem plain_big (k : Nat) : plainT (bigT k) := ⟨rfl, rfl, rfl, (plainF_iff _).2 fun t ht => by rw [(List.mem_replicate.1 ht).2]; exact plain_two⟩
theorem plain_nest : ∀ n, plainT (nestT n)
  | 0 => plain_hole
  | n + 1 => ⟨rfl, rfl, rfl, plain_nest n, trivial⟩
theorem nest_size : ∀ n, sizeT (nestT n) = n + 1
  | 0 => by simp [nestT, holeT, sizeT, sizeF]
  | n + 1 => by simp only [nestT, sizeT, sizeF, nest_size n]; omega
mutual
theorem ok_shift {pl pl' : List Nat} {w w' : Nat} (hl : pl'.length ≤ pl.length) : ∀ t : PT, (∀ d ∈ stepsT pl w t, okD d = true) → ∀ d ∈ stepsT pl' w' t, okD d = true
  | .node r o s, h, d, hd => by
    rw [stepsT] at hd
    rcases List.mem_cons.1 hd with rfl | hd
    · have h0 := h ⟨pl, w, .node r o s⟩ (by rw [stepsT]; exact List.mem_cons_self)
      unfold okD at h0 ⊢
      simp only [Bool.and_eq_true, decide_eq_true_eq] at h0 ⊢
      exact ⟨⟨by omega, h0.1.2⟩, h0.2⟩
    · exact okF_shift (pl := pl) (w := w / (2 * s.length)) hl 0 s (fun d hd => h d (by rw [stepsT]; exact List.mem_cons_of_mem _ hd)) d hd
theorem okF_shift {pl pl' : List Nat} {w w' : Nat} (hl : pl'.length ≤ pl.length) : ∀ (i : Nat) (ts : List PT), (∀ d ∈ stepsF pl w i ts, okD d = true) → ∀ d ∈ stepsF pl' w' i ts, okD d = true
  | i, [], h, d, hd => by simp [stepsF] at hd
  | i, t :: ts, h, d, hd => by
    rw [stepsF] at hd
    rcases List.mem_append.1 hd with hd | hd
    · exact ok_shift (pl := pl ++ [i]) (w := w) (by simp; omega) t (fun d hd => h d (by rw [stepsF]; exact List.mem_append_left _ hd)) d hd
    · exact okF_shift (pl := pl) (w := w) hl (i + 1) ts (fun d hd => h d (by rw [stepsF]; exact List.mem_append_right _ hd)) d hd
end
theorem set_get {ts : List PT} {k : Nat} {q q' : PT} (h : ts[k]? = some q) : (ts.set k q')[k]? = some q' := by
  obtain ⟨hl, _⟩ := List.getElem?_eq_some_iff.1 h
  simp [hl]
theorem repl_ok {u : PT} : ∀ {is : List Int} {t q : PT} {pl : List Nat} {w : Nat}, replT t is u = some q → (∀ d ∈ stepsT pl w q, okD d = true) → sizeT u ≤ sizeT q ∧ ∀ d ∈ stepsT [] whole u, okD d = true
  | [], t, q, pl, w, h, hq => by
    rw [replT] at h; cases h
    exact ⟨Nat.le_refl _, ok_shift (by simp) u hq⟩
  | i :: is, .node r o s, q, pl, w, h, hq => by
    rw [replT] at h
    split at h
    · split at h
      · rename_i p hp
        obtain ⟨q', hq', rfl⟩ := Option.map_eq_some_iff.1 h
        have hg := set_get (q' := q') hp
        have := repl_ok (pl := pl ++ [i.toNat]) (w := w / (2 * (s.set i.toNat q').length)) hq' fun d hd => hq d (by
          rw [stepsT]
          refine List.mem_cons_of_mem _ (stepsF_at (k := i.toNat) (i := 0) hg ?_)
          rw [Nat.zero_add]; exact hd)
        refine ⟨?_, this.2⟩
        have h1 := sizeF_mem hg
        simp only [sizeT]; omega
      · cases h
    · cases h
theorem meas_part {t u q : PT} {is : List Int} (h : replT t is u = some q) (hm : measT q = true) : measT u = true := by
  obtain ⟨h1, h2⟩ := meas_all hm
  obtain ⟨h3, h4⟩ := repl_ok h h2
  unfold measT
  rw [Bool.and_eq_true_iff]
  exact ⟨decide_eq_true (by omega), List.all_eq_true.2 h4⟩
theorem repl_some {u : PT} {t h : PT} {w w' : Nat} {p : List Nat} (hw : walkT t w p = some (h, w')) : ∃ q, replT t (natI p) u = some q := by
  induction p generalizing t w with
  | nil => exact ⟨u, by simp [natI, replT]⟩
  | cons k p ih =>
    obtain ⟨q, hq, hw2⟩ := walkT_cons hw
    obtain ⟨q', hq'⟩ := ih hw2
    obtain ⟨r, o, s⟩ := t
    simp only [PT.subs] at hq
    exact ⟨.node r o (s.set k q'), by rw [replT_cons hq, hq']; rfl⟩
theorem sub_walk {t h : PT} {w w' : Nat} {p : List Nat} {is : List Int} (hw : walkT t w p = some (h, w')) : subT t (natI p ++ is) = subT h is := by
  induction p generalizing t w with
  | nil =>
    simp only [walkT, Option.some.injEq, Prod.mk.injEq] at hw
    obtain ⟨rfl, _⟩ := hw
    rfl
  | cons k p ih =>
    obtain ⟨q, hq, hw2⟩ := walkT_cons hw
    have := ih hw2
    rw [← this]
    exact subT_in hq
section
variable {L : List Nat} {d : StepD} (hd : d ∈ goalsB L)
include hd
theorem with_bad {u : PT} (hu : measT u = false) : withR (builtT L) u (natI d.pl) = (5, zeroT) := by
  obtain ⟨_, hw, _⟩ := goalsB_mem hd
  obtain ⟨q, hq⟩ := repl_some (u := u) hw
  have hmq : measT q = false := by
    rw [Bool.eq_false_iff]
    intro h
    rw [meas_part hq h] at hu
    cases hu
  unfold withR
  rw [if_pos (built_meas L), hq]
  simp only [hmq]; rfl
theorem at_beyond (m : Int) (hm : 0 ≤ m) : atR (builtT L) (natI d.pl ++ [m]) = (6, zeroT) := by
  obtain ⟨hr, hw, _⟩ := goalsB_mem hd
  have h0 : d.t.subs = [] := by
    have hs : d ∈ stepsT [] whole (mkT L 12 0).1 := by
      have h := hd
      rw [goalsB_eq] at h
      exact (goals_sub _ _ _ _).subset h
    exact (mkT_steps L 12 0 [] whole d hs).2.2 hr
  unfold atR
  rw [if_pos (built_meas L), sub_walk hw, subT_out (by rw [h0]; simp)]
end
theorem at_bad {t : PT} (h : measT t = false) (is : List Int) : atR t is = (2, zeroT) := by
  unfold atR
  rw [h]; rfl
theorem code_bad {t : PT} (h : measT t = false) (ws : List (List Int)) : codeL t ws = 2 := by
  unfold codeL
  rw [h]; rfl
theorem code_neg (L : List Nat) (m : Int) (hm : m < 0) : codeL (builtT L) [[m]] = 6 := by
  unfold codeL
  rw [if_pos (built_meas L), if_neg]
  intro h
  obtain ⟨d, _, e⟩ := h [m] (by simp)
  unfold plD at e
  cases hp : d.pl with
  | nil => rw [hp] at e; cases e
  | cons k ks =>
    rw [hp] at e
    simp only [List.map_cons, List.cons.injEq] at e
    omega
theorem with_neg (L : List Nat) (m : Int) (hm : m < 0) : withR (builtT L) holeT [m] = (6, zeroT) := by
  have hr : replT (builtT L) [m] holeT = none := by
    cases builtT L with
    | node r o s => rw [replT, if_neg (by omega)]
  unfold withR
  rw [if_pos (built_meas L), hr]
end Go.Proofs.Ytfebcpmbkljaoaa
