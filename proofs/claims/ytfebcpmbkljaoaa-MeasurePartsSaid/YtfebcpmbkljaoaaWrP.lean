/- The plain law of MeasureWrong. -/
import Derived.Test.YtfebcpmbkljaoaaGrowp
namespace Go.Proofs.Ytfebcpmbkljaoaa
open Go.RowKit Go.HR
set_option linter.unusedVariables false
set_option linter.unusedSimpArgs false
set_option linter.unusedSectionVars false
/-- The place that a way's numbers tell. -/
def placeT : PT → List Nat → List Nat
  | _, [] => []
  | t, n :: ns => match t.subs[n % t.subs.length]? with
    | none => []
    | some q => (n % t.subs.length) :: placeT q ns
theorem placeT_stop {t : PT} {ns : List Nat} (h : t.subs = []) : placeT t ns = [] := by
  cases ns with
  | nil => rfl
  | cons n ns => simp [placeT, h]
theorem placeT_cons {t q : PT} {n : Nat} {ns : List Nat} (h : t.subs[n % t.subs.length]? = some q) : placeT t (n :: ns) = (n % t.subs.length) :: placeT q ns := by
  simp only [placeT, h]
theorem placeT_len : ∀ (ns : List Nat) (t : PT), (placeT t ns).length ≤ ns.length
  | [], t => by simp [placeT]
  | n :: ns, t => by
    simp only [placeT]
    split
    · simp
    · simp only [List.length_cons]; have := placeT_len ns; rename_i q _; have := this q; omega
theorem placeT_walk : ∀ (ns : List Nat) (t : PT) (w : Nat), ∃ h w', walkT t w (placeT t ns) = some (h, w')
  | [], t, w => ⟨t, w, rfl⟩
  | n :: ns, t, w => by
    simp only [placeT]
    split
    · exact ⟨t, w, rfl⟩
    · rename_i q hq
      obtain ⟨h, w', e⟩ := placeT_walk ns q (w / (2 * t.subs.length))
      exact ⟨h, w', by simp only [walkT, hq, e]⟩
theorem stepsF_at {pl : List Nat} {w : Nat} : ∀ {ts : List PT} {k i : Nat} {q : PT} {d : StepD}, ts[k]? = some q → d ∈ stepsT (pl ++ [i + k]) w q → d ∈ stepsF pl w i ts
  | [], k, i, q, d, h, _ => by simp at h
  | t :: ts, 0, i, q, d, h, hd => by
    simp only [List.getElem?_cons_zero, Option.some.injEq] at h; subst h
    simp only [stepsF, List.mem_append]; exact .inl hd
  | t :: ts, k + 1, i, q, d, h, hd => by
    simp only [stepsF, List.mem_append]
    refine .inr (stepsF_at (k := k) (by simpa using h) ?_)
    rwa [show i + 1 + k = i + (k + 1) by omega]
theorem walk_step : ∀ (p : List Nat) (t : PT) (w : Nat) (pl : List Nat) (h : PT) (w' : Nat), walkT t w p = some (h, w') → ⟨pl ++ p, w', h⟩ ∈ stepsT pl w t
  | [], t, w, pl, h, w', e => by
    simp only [walkT, Option.some.injEq, Prod.mk.injEq] at e
    obtain ⟨rfl, rfl⟩ := e
    rw [stepsT_eq]; simp
  | k :: p, t, w, pl, h, w', e => by
    obtain ⟨q, hq, e2⟩ := walkT_cons e
    have := walk_step p q _ (pl ++ [k]) h w' e2
    rw [stepsT_eq]
    refine List.mem_cons_of_mem _ (stepsF_at (k := k) (i := 0) hq ?_)
    rw [Nat.zero_add]
    simpa using this
def badN (ps : List (List Nat)) (d : StepD) : Bool := decide (d.pl ∈ ps)
theorem natI_inj {p q : List Nat} (h : natI p = natI q) : p = q := by
  have := congrArg (List.map Int.toNat) h
  simp only [natI, List.map_map] at this
  have e : (Int.toNat ∘ fun n : Nat => (n : Int)) = id := by funext n; simp
  rwa [e, List.map_id, List.map_id] at this
theorem badD_nat (ps : List (List Nat)) : badD (ps.map natI) = badN ps := by
  funext d
  unfold badD badN
  congr 1
  rw [eq_iff_iff, List.mem_map]
  constructor
  · rintro ⟨p, hp, e⟩
    have : p = d.pl := natI_inj e
    rwa [← this]
  · intro h; exact ⟨_, h, rfl⟩
/-- Places of a proof. -/
def PlacesOf (t : PT) (ps : List (List Nat)) : Prop := ∀ p ∈ ps, ∃ h w', walkT t whole p = some (h, w')
theorem code_places {t : PT} {ps : List (List Nat)} (hm : measT t = true) (hp : PlacesOf t ps) : codeL t (ps.map natI) = 0 := by
  unfold codeL
  rw [if_pos hm, if_pos]
  intro u hu
  obtain ⟨p, hpp, rfl⟩ := List.mem_map.1 hu
  obtain ⟨h, w', e⟩ := hp p hpp
  exact ⟨_, walk_step p t whole [] h w' e, rfl⟩
theorem goalsL_places {t : PT} {ps : List (List Nat)} (hm : measT t = true) (hp : PlacesOf t ps) : goalsL t (ps.map natI) = (goalsT (badN ps) [] whole t).1 := by
  unfold goalsL; rw [if_pos (code_places hm hp), badD_nat]
/-! ### a wrong step more -/
mutual
theorem more_T (b1 b2 : StepD → Bool) (hb : ∀ d, b1 d = true → b2 d = true) (pl : List Nat) (w : Nat) : ∀ t : PT, sumW (goalsT b1 pl w t).1 ≤ sumW (goalsT b2 pl w t).1 ∧ ((goalsT b2 pl w t).1 = [] → (goalsT b1 pl w t).1 = [])
  | .node r o s => by
    by_cases h2 : (b2 ⟨pl, w, .node r o s⟩ || decide (r = ⟨#[63]⟩)) = true
    · have h3 := sum_goalsT b1 pl w (.node r o s)
      simp only [goalsT, h2, if_true] at h3 ⊢
      exact ⟨by simpa [sumW] using h3, fun h => by simp at h⟩
    · have h1 : ¬ (b1 ⟨pl, w, .node r o s⟩ || decide (r = ⟨#[63]⟩)) = true := by
        intro h
        rw [Bool.or_eq_true] at h
        apply h2
        rw [Bool.or_eq_true]
        exact h.imp (hb _) id
      have := more_F b1 b2 hb pl (w / (2 * s.length)) 0 s
      simp only [goalsT, h1, h2, Bool.false_eq_true, if_false]
      exact this
theorem more_F (b1 b2 : StepD → Bool) (hb : ∀ d, b1 d = true → b2 d = true) (pl : List Nat) (w : Nat) (i : Nat) : ∀ ts : List PT, sumW (goalsF b1 pl w i ts).1 ≤ sumW (goalsF b2 pl w i ts).1 ∧ ((goalsF b2 pl w i ts).1 = [] → (goalsF b1 pl w i ts).1 = [])
  | [] => by simp [goalsF]
  | t :: ts => by
    have h1 := more_T b1 b2 hb (pl ++ [i]) w t
    have h2 := more_F b1 b2 hb pl w (i + 1) ts
    simp only [goalsF, sumW, List.map_append, List.sum_append, List.append_eq_nil_iff] at h1 h2 ⊢
    exact ⟨by omega, fun h => ⟨h1.2 h.1, h2.2 h.2⟩⟩
end
theorem restN_more {d1 d2 : List StepD} (h1 : sumW d1 ≤ sumW d2) (h2 : d2 = [] → d1 = []) : restN d2 ≤ restN d1 := by
  unfold restN
  by_cases e : d2 = []
  · rw [if_pos e, if_pos (h2 e)]; exact Nat.le_refl _
  · rw [if_neg e]; split <;> omega
theorem prog_more {t : PT} {ps : List (List Nat)} {p : List Nat} (hm : measT t = true) (hp : PlacesOf t (ps ++ [p])) : progL t ((ps ++ [p]).map natI) ≤ progL t (ps.map natI) := by
  have hp2 : PlacesOf t ps := fun q hq => hp q (by simp [hq])
  unfold progL
  rw [if_pos (code_places hm hp), if_pos (code_places hm hp2), goalsL_places hm hp, goalsL_places hm hp2]
  have h := more_T (badN ps) (badN (ps ++ [p])) (fun d hd => by simp only [badN, decide_eq_true_eq] at hd ⊢; simp [hd]) [] whole t
  exact restN_more h.1 h.2
/-! ### the proof in which the wrong steps are holes -/
mutual
def cutT (ps : List (List Nat)) (pl : List Nat) : PT → PT
  | .node r o s => if pl ∈ ps then holeT else .node r o (cutF ps pl 0 s)
def cutF (ps : List (List Nat)) (pl : List Nat) (i : Nat) : List PT → List PT
  | [] => []
  | t :: ts => cutT ps (pl ++ [i]) t :: cutF ps pl (i + 1) ts
end
theorem cutF_len (ps : List (List Nat)) (pl : List Nat) : ∀ (ts : List PT) (i : Nat), (cutF ps pl i ts).length = ts.length
  | [], i => rfl
  | t :: ts, i => by simp [cutF, cutF_len ps pl ts (i + 1)]
theorem cutF_at (ps : List (List Nat)) (pl : List Nat) : ∀ (ts : List PT) (i k : Nat), (cutF ps pl i ts)[k]? = ts[k]?.map (cutT ps (pl ++ [i + k]))
  | [], i, k => by simp [cutF]
  | t :: ts, i, 0 => by simp [cutF]
  | t :: ts, i, k + 1 => by
    simp only [cutF, List.getElem?_cons_succ, cutF_at ps pl ts (i + 1) k]
    rw [show i + 1 + k = i + (k + 1) by omega]
mutual
theorem cut_nil (pl : List Nat) : ∀ t : PT, cutT [] pl t = t
  | .node r o s => by simp [cutT, cutF_nil pl 0 s]
theorem cutF_nil (pl : List Nat) (i : Nat) : ∀ ts : List PT, cutF [] pl i ts = ts
  | [] => rfl
  | t :: ts => by simp [cutF, cut_nil (pl ++ [i]) t, cutF_nil pl (i + 1) ts]
end
mutual
theorem cut_size (ps : List (List Nat)) (pl : List Nat) : ∀ t : PT, sizeT (cutT ps pl t) ≤ sizeT t
  | .node r o s => by
    have := cutF_size ps pl 0 s
    simp only [cutT]
    split
    · simp [holeT, sizeT, sizeF]
    · simp only [sizeT]; omega
theorem cutF_size (ps : List (List Nat)) (pl : List Nat) (i : Nat) : ∀ ts : List PT, sizeF (cutF ps pl i ts) ≤ sizeF ts
  | [] => by simp [cutF]
  | t :: ts => by
    have h1 := cut_size ps (pl ++ [i]) t
    have h2 := cutF_size ps pl (i + 1) ts
    simp only [cutF, sizeF]; omega
end
mutual
theorem cut_plain (ps : List (List Nat)) (pl : List Nat) : ∀ t : PT, plainT t → plainT (cutT ps pl t)
  | .node r o s, h => by
    simp only [cutT]
    split
    · exact plain_hole
    · exact ⟨h.1, h.2.1, h.2.2.1, cutF_plain ps pl 0 s h.2.2.2⟩
theorem cutF_plain (ps : List (List Nat)) (pl : List Nat) (i : Nat) : ∀ ts : List PT, plainF ts → plainF (cutF ps pl i ts)
  | [], _ => trivial
  | t :: ts, h => ⟨cut_plain ps (pl ++ [i]) t h.1, cutF_plain ps pl (i + 1) ts h.2⟩
end
mutual
theorem cut_fit (ps : List (List Nat)) (pl : List Nat) : ∀ (t : PT) (f : Nat), fitT f t → fitT f (cutT ps pl t)
  | .node r o s, f, h => by
    simp only [fitT] at h
    simp only [cutT]
    split
    · exact fit_hole f
    · simp only [fitT, cutF_len]
      exact ⟨h.1, fun e => by rw [h.2.1 e]; rfl, cutF_fit ps pl 0 s f h.2.2⟩
theorem cutF_fit (ps : List (List Nat)) (pl : List Nat) (i : Nat) : ∀ (ts : List PT) (f : Nat), fitF f ts → fitF f (cutF ps pl i ts)
  | [], _, _ => by simp [cutF, fitF]
  | t :: ts, f, h => by
    simp only [fitF] at h
    simp only [cutF, fitF]
    exact ⟨h.1, cut_fit ps (pl ++ [i]) t (f - 1) h.2.1, cutF_fit ps pl (i + 1) ts f h.2.2⟩
end
/-- What is compared of a goal. -/
def viewD (d : StepD) : List Nat × Nat := (d.pl, d.wt)
mutual
theorem cut_goals (ps : List (List Nat)) (pl : List Nat) (w : Nat) : ∀ t : PT, ((goalsT (badD []) pl w (cutT ps pl t)).1).map viewD = ((goalsT (badN ps) pl w t).1).map viewD
  | .node r o s => by
    by_cases hp : pl ∈ ps
    · simp [cutT, hp, goalsT, badN, badD_nil, holeT, viewD]
    · by_cases hr : r = ⟨#[63]⟩
      · simp [cutT, hp, goalsT, badN, badD_nil, hr, viewD]
      · simp only [cutT, hp, if_false, goalsT, badN, badD_nil, hr, decide_false, Bool.or_false, Bool.false_eq_true, cutF_len]
        exact cutF_goals ps pl (w / (2 * s.length)) 0 s
theorem cutF_goals (ps : List (List Nat)) (pl : List Nat) (w : Nat) (i : Nat) : ∀ ts : List PT, ((goalsF (badD []) pl w i (cutF ps pl i ts)).1).map viewD = ((goalsF (badN ps) pl w i ts).1).map viewD
  | [] => by simp [cutF, goalsF]
  | t :: ts => by
    simp only [cutF, goalsF, List.map_append, cut_goals ps (pl ++ [i]) w t, cutF_goals ps pl w (i + 1) ts]
end
theorem cut_same {ps qs : List (List Nat)} : ∀ {pl : List Nat}, (∀ r, pl ++ r ∈ ps ↔ pl ++ r ∈ qs) → ∀ t : PT, cutT ps pl t = cutT qs pl t := by
  suffices h : ∀ (n : Nat) (t : PT), sizeT t ≤ n → ∀ pl : List Nat, (∀ r, pl ++ r ∈ ps ↔ pl ++ r ∈ qs) → cutT ps pl t = cutT qs pl t from fun {pl} hp t => h _ t (Nat.le_refl _) pl hp
  intro n
  induction n with
  | zero => intro t ht; have := sizeT_pos t; omega
  | succ n ih =>
    intro t ht pl hp
    obtain ⟨r, o, s⟩ := t
    have h0 := hp []
    rw [List.append_nil] at h0
    have hF : cutF ps pl 0 s = cutF qs pl 0 s := by
      apply List.ext_getElem?
      intro k
      rw [cutF_at, cutF_at]
      cases hk : s[k]? with
      | none => rfl
      | some q =>
        simp only [Option.map_some, Option.some.injEq]
        have := sizeF_mem hk
        simp only [sizeT] at ht
        exact ih q (by omega) _ fun r => by simpa using hp ((0 + k) :: r)
    simp only [cutT, hF, h0]
/-- One place more is cut. -/
theorem cut_more {ps : List (List Nat)} : ∀ {p : List Nat} {t : PT} {w w' : Nat} {pl : List Nat} {h : PT}, walkT t w p = some (h, w') →
    match replT (cutT ps pl t) (natI p) holeT with
    | some q => cutT (ps ++ [pl ++ p]) pl t = q
    | none => cutT (ps ++ [pl ++ p]) pl t = cutT ps pl t
  | [], .node r o s, w, w', pl, h, _ => by simp [natI, replT, cutT]
  | k :: p, .node r o s, w, w', pl, h, e => by
    obtain ⟨q, hq, e2⟩ := walkT_cons e
    simp only [PT.subs] at hq e2
    have hne : pl ≠ pl ++ k :: p := fun e => by simpa using congrArg List.length e
    by_cases hp : pl ∈ ps
    · have h1 : cutT ps pl (.node r o s) = holeT := by simp [cutT, hp]
      have h2 : cutT (ps ++ [pl ++ k :: p]) pl (.node r o s) = holeT := by simp [cutT, hp]
      have h3 : replT holeT (natI (k :: p)) holeT = none := by
        simp only [natI, List.map_cons, holeT]
        rw [replT, if_neg]
        simp
      rw [h1, h2, h3]
    · have h1 : cutT ps pl (.node r o s) = .node r o (cutF ps pl 0 s) := by simp [cutT, hp]
      have h2 : cutT (ps ++ [pl ++ k :: p]) pl (.node r o s) = .node r o (cutF (ps ++ [pl ++ k :: p]) pl 0 s) := by simp [cutT, hp, hne]
      have hat : (cutF ps pl 0 s)[k]? = some (cutT ps (pl ++ [k]) q) := by rw [cutF_at, hq, Nat.zero_add]; rfl
      have ih := cut_more (ps := ps) (pl := pl ++ [k]) e2
      rw [show pl ++ [k] ++ p = pl ++ k :: p by simp] at ih
      have hF : cutF (ps ++ [pl ++ k :: p]) pl 0 s = (cutF ps pl 0 s).set k (cutT (ps ++ [pl ++ k :: p]) (pl ++ [k]) q) := by
        apply List.ext_getElem?
        intro j
        rw [List.getElem?_set, cutF_at, cutF_len]
        simp only [Nat.zero_add]
        by_cases hj : k = j
        · subst hj
          rw [hq, if_pos rfl, if_pos (List.getElem?_eq_some_iff.1 hq).1]; rfl
        · rw [if_neg hj, cutF_at, Nat.zero_add]
          cases s[j]? with
          | none => rfl
          | some x =>
            simp only [Option.map_some, Option.some.injEq]
            refine cut_same (fun r => ?_) x
            simp only [List.mem_append, List.mem_singleton]
            constructor
            · rintro (h | h)
              · exact h
              · exfalso
                rw [List.append_assoc, List.append_cancel_left_eq] at h
                simp at h; exact hj h.1.symm
            · exact .inl
      rw [h1, h2, replT_cons hat]
      cases hr : replT (cutT ps (pl ++ [k]) q) (natI p) holeT with
      | none =>
        rw [hr] at ih
        simp only [Option.map_none]
        simp only at ih
        rw [hF, ih]
        congr 1
        apply List.ext_getElem?
        intro j
        rw [List.getElem?_set]
        by_cases hj : k = j
        · subst hj; rw [if_pos rfl, if_pos (List.getElem?_eq_some_iff.1 hat).1, hat]
        · rw [if_neg hj]
      | some q2 =>
        rw [hr] at ih
        simp only at ih
        simp only [Option.map_some]
        rw [hF, ih]
/-- The code's step: With either answers the next cut, or there is nothing at the place any more. -/
theorem with_cut {t : PT} {ps : List (List Nat)} {p : List Nat} {f : Nat} (hf : fitT f t) (hf2 : f ≤ 40) (hs : sizeT t ≤ 300) (hp : ∃ h w', walkT t whole p = some (h, w')) :
    withR (cutT ps [] t) holeT (natI p) = (0, cutT (ps ++ [p]) [] t) ∨ (withR (cutT ps [] t) holeT (natI p) = (6, zeroT) ∧ cutT (ps ++ [p]) [] t = cutT ps [] t) := by
  obtain ⟨h, w', e⟩ := hp
  have h1 := cut_more (ps := ps) (pl := []) e
  rw [List.nil_append] at h1
  have hm : ∀ qs, measT (cutT qs [] t) = true := fun qs => fit_meas (cut_fit qs [] t f hf) hf2 (Nat.le_trans (cut_size qs [] t) hs)
  unfold withR
  rw [if_pos (hm _)]
  cases hr : replT (cutT ps [] t) (natI p) holeT with
  | none => rw [hr] at h1; exact .inr ⟨rfl, h1⟩
  | some q =>
    rw [hr] at h1
    simp only at h1
    subst h1
    left
    simp only [hm, if_true]
theorem cut_law {t : PT} {ps : List (List Nat)} {f : Nat} (hf : fitT f t) (hf2 : f ≤ 40) (hs : sizeT t ≤ 300) (hp : PlacesOf t ps) :
    codeL (cutT ps [] t) [] = 0 ∧ (goalsL (cutT ps [] t) []).map viewD = (goalsL t (ps.map natI)).map viewD := by
  have hm : measT (cutT ps [] t) = true := fit_meas (cut_fit ps [] t f hf) hf2 (Nat.le_trans (cut_size ps [] t) hs)
  have hmt : measT t = true := fit_meas hf hf2 hs
  refine ⟨code_meas hm, ?_⟩
  rw [goalsL_places hmt hp]
  unfold goalsL
  rw [if_pos (code_meas hm)]
  exact cut_goals ps [] whole t
theorem goals_ext {t : PT} {ps qs : List (List Nat)} (hm : measT t = true) (hp : PlacesOf t ps) (h : ∀ p, p ∈ qs ↔ p ∈ ps) : goalsL t (qs.map natI) = goalsL t (ps.map natI) := by
  rw [goalsL_places hm hp, goalsL_places hm (fun p hq => hp p ((h p).1 hq))]
  congr 2
  funext d
  unfold badN
  rw [decide_eq_decide]; exact h _
end Go.Proofs.Ytfebcpmbkljaoaa
