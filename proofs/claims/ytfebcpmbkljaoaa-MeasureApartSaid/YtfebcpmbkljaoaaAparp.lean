/- The plain law of MeasureApart. -/
import Derived.Test.YtfebcpmbkljaoaaLimp
namespace Go.Proofs.Ytfebcpmbkljaoaa
set_option linter.unusedVariables false
set_option linter.unusedSimpArgs false
set_option linter.unusedSectionVars false
theorem repl_sub {u : PT} : ∀ {is : List Int} {t q : PT}, replT t is u = some q → subT q is = some u
  | [], t, q, h => by rw [replT] at h; cases h; rfl
  | i :: is, .node r o s, q, h => by
    rw [replT] at h
    split at h
    · rename_i hi
      split at h
      · rename_i p hp
        obtain ⟨q', hq', rfl⟩ := Option.map_eq_some_iff.1 h
        have hg := set_get (q' := q') hp
        have e : i = ((i.toNat : Nat) : Int) := by omega
        rw [e]
        simp only [Int.toNat_natCast]
        rw [subT_in (by simp only [PT.subs]; exact hg)]
        exact repl_sub hq'
      · cases h
    · cases h
theorem repl_comm {x y : PT} : ∀ {p1 p2 : List Nat} {t q1 q2 : PT}, ¬ p1 <+: p2 → ¬ p2 <+: p1 → replT t (natI p1) x = some q1 → replT t (natI p2) y = some q2 → ∃ b, replT q1 (natI p2) y = some b ∧ replT q2 (natI p1) x = some b
  | [], p2, t, q1, q2, h1, h2, _, _ => absurd (List.nil_prefix) h1
  | k :: r1, [], t, q1, q2, h1, h2, _, _ => absurd (List.nil_prefix) h2
  | k :: r1, m :: r2, .node r o s, q1, q2, h1, h2, e1, e2 => by
    simp only [natI, List.map_cons, replT] at e1 e2
    split at e1
    · rename_i hk
      split at e2
      · rename_i hm
        simp only [Int.toNat_natCast] at e1 e2
        cases hsk : s[k]? with
        | none => rw [hsk] at e1; cases e1
        | some u =>
          rw [hsk] at e1
          obtain ⟨u', hu', rfl⟩ := Option.map_eq_some_iff.1 e1
          cases hsm : s[m]? with
          | none => rw [hsm] at e2; cases e2
          | some v =>
            rw [hsm] at e2
            obtain ⟨v', hv', rfl⟩ := Option.map_eq_some_iff.1 e2
            by_cases hkm : k = m
            · subst hkm
              rw [hsk] at hsm
              cases hsm
              obtain ⟨b, hb1, hb2⟩ := repl_comm (fun h => h1 (by rw [List.cons_prefix_cons]; exact ⟨rfl, h⟩)) (fun h => h2 (by rw [List.cons_prefix_cons]; exact ⟨rfl, h⟩)) hu' hv'
              refine ⟨.node r o (s.set k b), ?_, ?_⟩
              · have := replT_cons (r := r) (o := o) (u := y) (p := r2) (set_get (q' := u') hsk)
                rw [this, hb1]
                simp
              · have := replT_cons (r := r) (o := o) (u := x) (p := r1) (set_get (q' := v') hsk)
                rw [this, hb2]
                simp
            · have g1 : (s.set k u')[m]? = some v := by rw [List.getElem?_set_ne hkm]; exact hsm
              have g2 : (s.set m v')[k]? = some u := by rw [List.getElem?_set_ne (Ne.symm hkm)]; exact hsk
              refine ⟨.node r o ((s.set k u').set m v'), ?_, ?_⟩
              · have := replT_cons (r := r) (o := o) (u := y) (p := r2) g1
                rw [this]
                have hv2 : replT v (natI r2) y = some v' := hv'
                rw [hv2]; rfl
              · have := replT_cons (r := r) (o := o) (u := x) (p := r1) g2
                rw [this]
                have hu2 : replT u (natI r1) x = some u' := hu'
                rw [hu2, List.set_comm _ _ hkm]; rfl
      · cases e2
    · cases e1
theorem walk_append {t h : PT} {w w' : Nat} {p r : List Nat} (hw : walkT t w p = some (h, w')) : walkT t w (p ++ r) = walkT h w' r := by
  induction p generalizing t w with
  | nil =>
    simp only [walkT, Option.some.injEq, Prod.mk.injEq] at hw
    obtain ⟨rfl, rfl⟩ := hw
    rfl
  | cons k p ih =>
    obtain ⟨q, hq, hw2⟩ := walkT_cons hw
    rw [List.cons_append, walkT, hq]
    exact ih hw2
section
variable {L : List Nat} {i k : Nat} {d1 d2 : StepD} (h1 : (goalsB L)[i]? = some d1) (h2 : (goalsB L)[k]? = some d2) (hne : i ≠ k)
include h1 h2 hne
theorem goals_apart : ¬ d1.pl <+: d2.pl := by
  intro hpre
  obtain ⟨r, hr⟩ := hpre
  have m1 := List.mem_of_getElem? h1
  have m2 := List.mem_of_getElem? h2
  obtain ⟨hr1, hw1, _⟩ := goalsB_mem m1
  obtain ⟨_, hw2, _⟩ := goalsB_mem m2
  have hs0 : d1.t.subs = [] := by
    have hs : d1 ∈ stepsT [] whole (mkT L 12 0).1 := by
      have h := m1
      rw [goalsB_eq] at h
      exact (goals_sub _ _ _ _).subset h
    exact (mkT_steps L 12 0 [] whole d1 hs).2.2 hr1
  rw [← hr, walk_append hw1] at hw2
  cases r with
  | nil =>
    have hp := goalsB_sorted L
    obtain ⟨l1, e1⟩ := List.getElem?_eq_some_iff.1 h1
    obtain ⟨l2, e2⟩ := List.getElem?_eq_some_iff.1 h2
    have heq : plD d1 = plD d2 := by unfold plD; rw [← hr, List.append_nil]
    have hz : ordI (plD d1) (plD d2) = 0 := by rw [heq]; exact (ordI_zero _ _).2 rfl
    rcases Nat.lt_or_gt_of_ne hne with hlt | hlt
    · have := List.pairwise_iff_getElem.1 hp i k l1 l2 hlt
      rw [e1, e2] at this; omega
    · have := List.pairwise_iff_getElem.1 hp k i l2 l1 hlt
      rw [e1, e2, heq, (ordI_zero _ _).2 rfl] at this; omega
  | cons c r =>
    rw [walkT, hs0] at hw2
    simp at hw2
end
theorem goals_stay {t q u h : PT} {P : List Nat} {w' f : Nat} (ht : fitT f t) (hw : walkT t whole P = some (h, w')) (hh : h.rule = ⟨#[63]⟩) (hq : replT t (natI P) u = some q) {d : StepD} (hd : d ∈ (goalsT (badD []) [] whole t).1) (hne : d.pl ≠ P) : d ∈ (goalsT (badD []) [] whole q).1 := by
  obtain ⟨A, B, hA, hq2⟩ := goals_repl (u := u) [] ht hw hh
  rw [hA] at hd
  rw [(hq2 q hq).1]
  simp only [List.mem_append, List.mem_singleton] at hd ⊢
  rcases hd with (hd | hd) | hd
  · exact .inl (.inl hd)
  · rw [hd] at hne; simp at hne
  · exact .inr hd
/-- What is put at two goals. -/
theorem apart_law {L : List Nat} {i k : Nat} {d1 d2 : StepD} (h1 : (goalsB L)[i]? = some d1) (h2 : (goalsB L)[k]? = some d2) (hne : i ≠ k) (x y : PT) (hx : fitT 12 x) (hy : fitT 12 y) :
    ∃ q1 q2 b, replT (builtT L) (natI d1.pl) x = some q1 ∧ replT (builtT L) (natI d2.pl) y = some q2 ∧ replT q1 (natI d2.pl) y = some b ∧ replT q2 (natI d1.pl) x = some b ∧ subT b (natI d1.pl) = some x ∧ subT b (natI d2.pl) = some y ∧
      ∀ (c : Nat) d, (goalsB L)[c]? = some d → c ≠ i → c ≠ k → d ∈ (goalsT (badD []) [] whole b).1 := by
  obtain ⟨hr1, hw1, hl1⟩ := goalsB_mem (List.mem_of_getElem? h1)
  obtain ⟨hr2, hw2, hl2⟩ := goalsB_mem (List.mem_of_getElem? h2)
  obtain ⟨q1, e1, f1, _, _⟩ := replT_walk (built_fit L) hw1 hx
  obtain ⟨q2, e2, f2, _, _⟩ := replT_walk (built_fit L) hw2 hy
  obtain ⟨b, b1, b2⟩ := repl_comm (goals_apart h1 h2 hne) (goals_apart h2 h1 (Ne.symm hne)) e1 e2
  have hpl : ∀ (c e : Nat) (d g : StepD), (goalsB L)[c]? = some d → (goalsB L)[e]? = some g → c ≠ e → d.pl ≠ g.pl := fun c e d g hc he hce h => goals_apart hc he hce (by rw [h]; exact List.prefix_refl _)
  have hin : ∀ (c : Nat) d, (goalsB L)[c]? = some d → c ≠ i → d ∈ (goalsT (badD []) [] whole q1).1 := fun c d hc hci => by
    have hd := List.mem_of_getElem? hc
    rw [goalsB_eq] at hd
    exact goals_stay (built_fit L) hw1 hr1 e1 hd (hpl c i d d1 hc h1 hci)
  refine ⟨q1, q2, b, e1, e2, b1, b2, repl_sub b2, repl_sub b1, fun c d hc hci hck => ?_⟩
  have hd2 := hin k d2 h2 (Ne.symm hne)
  obtain ⟨p, hp, hwp⟩ := steps_walk [] whole q1 d2 ((goals_sub _ _ _ _).subset hd2)
  rw [List.nil_append] at hp
  subst hp
  exact goals_stay f1 hwp hr2 b1 (hin c d hc hci) (hpl c k d d2 hc h2 hck)
/-- The codes. -/
theorem with_some {t u q : PT} {is : List Int} (hm : measT t = true) (h : replT t is u = some q) : withR t u is = if measT q then (0, q) else (5, zeroT) := by
  unfold withR
  rw [if_pos hm, h]
theorem at_some {t q : PT} {is : List Int} (hm : measT t = true) (h : subT t is = some q) : atR t is = (0, q) := by
  unfold atR
  rw [if_pos hm, h]
theorem goalsL_meas {t : PT} (hm : measT t = true) : goalsL t [] = (goalsT (badD []) [] whole t).1 := by
  unfold goalsL
  rw [if_pos (code_meas hm)]
end Go.Proofs.Ytfebcpmbkljaoaa
