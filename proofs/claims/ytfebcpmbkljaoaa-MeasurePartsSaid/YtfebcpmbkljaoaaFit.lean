/- Plain laws of replacing: what fits stays fit; the goals of a proof in which a goal is replaced. -/
import Derived.Test.YtfebcpmbkljaoaaWith
import Derived.Test.YtfebcpmbkljaoaaMeaZ
namespace Go.Proofs.Ytfebcpmbkljaoaa
open Go.RowKit Go.HR
set_option linter.unusedVariables false
set_option linter.unusedSimpArgs false
set_option linter.unusedSectionVars false
mutual
/-- A proof of so many levels below its root, each step of which is right. -/
def fitT : Nat → PT → Prop
  | f, .node r o s => s.length ≤ 8 ∧ (r = ⟨#[63]⟩ → s = []) ∧ fitF f s
def fitF : Nat → List PT → Prop
  | _, [] => True
  | f, t :: ts => 1 ≤ f ∧ fitT (f - 1) t ∧ fitF f ts
end
theorem fitT_eq (f : Nat) (t : PT) : fitT f t ↔ t.subs.length ≤ 8 ∧ (t.rule = ⟨#[63]⟩ → t.subs = []) ∧ fitF f t.subs := by
  cases t; simp only [fitT, PT.subs, PT.rule]
theorem fitF_iff (f : Nat) (ts : List PT) : fitF f ts ↔ ∀ t ∈ ts, 1 ≤ f ∧ fitT (f - 1) t := by
  induction ts with
  | nil => simp [fitF]
  | cons t ts ih => simp only [fitF, ih, List.mem_cons, forall_eq_or_imp]; constructor <;> simp +contextual [and_assoc]
mutual
theorem fit_mono : ∀ (t : PT) (f g : Nat), f ≤ g → fitT f t → fitT g t
  | .node r o s, f, g, h, ht => by
    simp only [fitT] at ht ⊢
    exact ⟨ht.1, ht.2.1, fitF_mono s f g h ht.2.2⟩
theorem fitF_mono : ∀ (ts : List PT) (f g : Nat), f ≤ g → fitF f ts → fitF g ts
  | [], _, _, _, _ => by simp [fitF]
  | t :: ts, f, g, h, ht => by
    simp only [fitF] at ht ⊢
    exact ⟨by omega, fit_mono t (f - 1) (g - 1) (by omega) ht.2.1, fitF_mono ts f g h ht.2.2⟩
end
mutual
theorem fit_steps : ∀ (t : PT) (f : Nat) (pl : List Nat) (w : Nat), fitT f t → ∀ d ∈ stepsT pl w t, d.pl.length ≤ pl.length + f ∧ d.t.subs.length ≤ 8 ∧ (d.t.rule = ⟨#[63]⟩ → d.t.subs = [])
  | .node r o s, f, pl, w, h, d, hd => by
    simp only [fitT] at h
    simp only [stepsT, List.mem_cons] at hd
    rcases hd with rfl | hd
    · exact ⟨by simp, h.1, h.2.1⟩
    · exact fitF_steps s f pl _ 0 h.2.2 d hd
theorem fitF_steps : ∀ (ts : List PT) (f : Nat) (pl : List Nat) (w i : Nat), fitF f ts → ∀ d ∈ stepsF pl w i ts, d.pl.length ≤ pl.length + f ∧ d.t.subs.length ≤ 8 ∧ (d.t.rule = ⟨#[63]⟩ → d.t.subs = [])
  | [], _, _, _, _, _, d, hd => by simp [stepsF] at hd
  | t :: ts, f, pl, w, i, h, d, hd => by
    simp only [fitF] at h
    simp only [stepsF, List.mem_append] at hd
    rcases hd with hd | hd
    · have := fit_steps t (f - 1) (pl ++ [i]) w h.2.1 d hd
      simp only [List.length_append, List.length_singleton] at this
      exact ⟨by omega, this.2⟩
    · exact fitF_steps ts f pl w (i + 1) h.2.2 d hd
end
theorem fit_meas {t : PT} {f : Nat} (h : fitT f t) (hf : f ≤ 40) (hs : sizeT t ≤ 300) : measT t = true := by
  simp only [measT, Bool.and_eq_true, decide_eq_true_eq, List.all_eq_true]
  refine ⟨hs, fun d hd => ?_⟩
  have h1 := fit_steps t f [] whole h d hd
  simp only [List.length_nil] at h1
  refine okD_on (by omega) h1.2.1 ?_
  by_cases hr : d.t.rule = ⟨#[63]⟩
  · right; rw [h1.2.2 hr]; rfl
  · exact .inl hr
theorem fit_hole (f : Nat) : fitT f holeT := by simp [holeT, fitT, fitF]
theorem fit_leaf (f n : Nat) : fitT f (leafT n) := by simp [leafT, fitT, fitF]
theorem mkT_fit (L : List Nat) : ∀ f i, fitT f (mkT L f i).1 := by
  intro f
  induction f with
  | zero =>
    intro i
    rcases mkT_cases L 0 i with h | ⟨h0, h⟩ | ⟨h0, n, h⟩ | ⟨h0, f', k, hf, _⟩
    · rw [h]; exact fit_hole 0
    · rw [h]; exact fit_hole 0
    · rw [h]; exact fit_leaf 0 n
    · cases hf
  | succ f ih =>
    intro i
    rcases mkT_cases L (f + 1) i with h | ⟨h0, h⟩ | ⟨h0, n, h⟩ | ⟨h0, f', k, hf, hk, h⟩
    · rw [h]; exact fit_hole _
    · rw [h]; exact fit_hole _
    · rw [h]; exact fit_leaf _ n
    · cases hf
      rw [h]
      simp only [fitT]
      refine ⟨by rw [mkA_len]; omega, fun e => absurd e (by simp only [ruleR]; decide), (fitF_iff _ _).2 fun t ht => ⟨by omega, ?_⟩⟩
      obtain ⟨j, rfl⟩ := mkA_mem ht
      exact ih j
theorem built_fit (L : List Nat) : fitT 12 (builtT L) := mkT_fit L 12 0
theorem built_size2 (L : List Nat) : sizeT (builtT L) ≤ 181 := by
  have := mkT_at L 12 0 (by omega)
  unfold builtT; omega
/-- A place's indices, as integers. -/
def natI (p : List Nat) : List Int := p.map fun n : Nat => (n : Int)
theorem replT_cons {r : ByteArray} {o : PO} {s : List PT} {k : Nat} {p : List Nat} {u q : PT} (h : s[k]? = some q) : replT (.node r o s) (natI (k :: p)) u = (replT q (natI p) u).map fun q' => PT.node r o (s.set k q') := by
  have hl := (List.getElem?_eq_some_iff.1 h).1
  simp only [natI, List.map_cons]
  rw [replT, if_pos ⟨by omega, by omega⟩, Int.toNat_natCast, h]
theorem walkT_len {t : PT} {w w' : Nat} {p : List Nat} {f : Nat} {h : PT} (ht : fitT f t) (hw : walkT t w p = some (h, w')) : p.length ≤ f := by
  induction p generalizing t w f with
  | nil => simp
  | cons k p ih =>
    obtain ⟨q, hq, hw2⟩ := walkT_cons hw
    have := (fitF_iff _ _).1 ((fitT_eq f t).1 ht).2.2 q (List.mem_of_getElem? hq)
    have := ih this.2 hw2
    simp; omega
theorem walkT_fit {t : PT} {w w' : Nat} {p : List Nat} {f : Nat} {h : PT} (ht : fitT f t) (hw : walkT t w p = some (h, w')) : fitT f h := by
  induction p generalizing t w f with
  | nil => simp only [walkT, Option.some.injEq, Prod.mk.injEq] at hw; obtain ⟨rfl, _⟩ := hw; exact ht
  | cons k p ih =>
    obtain ⟨q, hq, hw2⟩ := walkT_cons hw
    have := (fitF_iff _ _).1 ((fitT_eq f t).1 ht).2.2 q (List.mem_of_getElem? hq)
    exact fit_mono _ _ _ (by omega) (ih this.2 hw2)
/-- There is a part at a place that leads somewhere; what replaces it fits. -/
theorem replT_walk {t : PT} {w w' : Nat} {p : List Nat} {f g : Nat} {h u : PT} (ht : fitT f t) (hw : walkT t w p = some (h, w')) (hu : fitT g u) :
    ∃ q, replT t (natI p) u = some q ∧ fitT (max f (p.length + g)) q ∧ sizeT q + sizeT h = sizeT t + sizeT u ∧ q.rule = (if p = [] then u.rule else t.rule) := by
  induction p generalizing t w f with
  | nil =>
    simp only [walkT, Option.some.injEq, Prod.mk.injEq] at hw
    obtain ⟨rfl, _⟩ := hw
    exact ⟨u, by simp [natI, replT], fit_mono _ _ _ (by simp; omega) hu, by omega, by simp⟩
  | cons k p ih =>
    obtain ⟨q, hq, hw2⟩ := walkT_cons hw
    obtain ⟨h1, h2, h3⟩ := (fitT_eq f t).1 ht
    have hf := (fitF_iff _ _).1 h3 q (List.mem_of_getElem? hq)
    obtain ⟨q', hq', hfit, hsz, _⟩ := ih hf.2 hw2
    obtain ⟨r, o, s⟩ := t
    simp only [PT.subs, PT.rule] at hq h1 h2 h3
    refine ⟨.node r o (s.set k q'), by rw [replT_cons hq, hq']; rfl, ?_, ?_, by simp [PT.rule]⟩
    · simp only [fitT]
      refine ⟨by simpa using h1, fun e => ?_, (fitF_iff _ _).2 fun x hx => ?_⟩
      · have := h2 e; subst this; simp at hq
      · simp only [List.length_cons]
        rcases List.mem_or_eq_of_mem_set hx with hx | rfl
        · have := (fitF_iff _ _).1 h3 x hx
          exact ⟨by omega, fit_mono _ _ _ (by omega) this.2⟩
        · exact ⟨by omega, fit_mono _ _ _ (by omega) hfit⟩
    · have := sizeF_set (q' := q') hq
      simp only [sizeT]; omega
theorem goalsF_append (bad : StepD → Bool) (pl : List Nat) (w : Nat) : ∀ (i : Nat) (ts us : List PT), goalsF bad pl w i (ts ++ us) = ((goalsF bad pl w i ts).1 ++ (goalsF bad pl w (i + ts.length) us).1, (goalsF bad pl w i ts).2 + (goalsF bad pl w (i + ts.length) us).2)
  | i, [], us => by simp [goalsF]
  | i, t :: ts, us => by
    simp only [List.cons_append, goalsF, goalsF_append bad pl w (i + 1) ts us, List.length_cons, List.append_assoc, Prod.mk.injEq]
    rw [show i + 1 + ts.length = i + (ts.length + 1) by omega]
    exact ⟨rfl, by omega⟩
/-- The goals of a proof in which a goal is replaced. -/
theorem goals_repl {t : PT} {w w' : Nat} {p : List Nat} {f : Nat} {h u : PT} (pl : List Nat) (ht : fitT f t) (hw : walkT t w p = some (h, w')) (hh : h.rule = ⟨#[63]⟩) :
    ∃ A B, (goalsT (badD []) pl w t).1 = A ++ [⟨pl ++ p, w', h⟩] ++ B ∧ ∀ q, replT t (natI p) u = some q →
      (goalsT (badD []) pl w q).1 = A ++ (goalsT (badD []) (pl ++ p) w' u).1 ++ B ∧ (goalsT (badD []) pl w q).2 = (goalsT (badD []) pl w t).2 + (goalsT (badD []) (pl ++ p) w' u).2 := by
  induction p generalizing t w f pl with
  | nil =>
    simp only [walkT, Option.some.injEq, Prod.mk.injEq] at hw
    obtain ⟨rfl, rfl⟩ := hw
    refine ⟨[], [], ?_, fun q hq => ?_⟩
    · obtain ⟨r, o, s⟩ := t
      simp only [PT.rule] at hh
      simp [goalsT, badD_nil, hh]
    · simp only [natI, List.map_nil, replT, Option.some.injEq] at hq
      subst hq
      obtain ⟨r, o, s⟩ := t
      simp only [PT.rule] at hh
      refine ⟨by simp, ?_⟩
      simp [goalsT, badD_nil, hh]
  | cons k p ih =>
    obtain ⟨q, hq, hw2⟩ := walkT_cons hw
    obtain ⟨h1, h2, h3⟩ := (fitT_eq f t).1 ht
    have hf := (fitF_iff _ _).1 h3 q (List.mem_of_getElem? hq)
    obtain ⟨A, B, hA, hB⟩ := ih (pl ++ [k]) hf.2 hw2
    obtain ⟨r, o, s⟩ := t
    simp only [PT.subs, PT.rule] at hq h1 h2 h3 hw2
    have hr : r ≠ ⟨#[63]⟩ := fun e => by have := h2 e; subst this; simp at hq
    obtain ⟨hl, hqe⟩ := List.getElem?_eq_some_iff.1 hq
    have hs : s = s.take k ++ q :: s.drop (k + 1) := by
      conv => lhs; rw [← List.take_append_drop k s, List.drop_eq_getElem_cons hl, hqe]
    have hkl : (s.take k).length = k := by rw [List.length_take]; omega
    refine ⟨(goalsF (badD []) pl (w / (2 * s.length)) 0 (s.take k)).1 ++ A, B ++ (goalsF (badD []) pl (w / (2 * s.length)) (k + 1) (s.drop (k + 1))).1, ?_, fun q2 hq2 => ?_⟩
    · simp only [goalsT, badD_nil, Bool.false_or, hr, decide_false, Bool.false_eq_true, if_false]
      conv => lhs; rw [show goalsF (badD []) pl (w / (2 * s.length)) 0 s = goalsF (badD []) pl (w / (2 * s.length)) 0 (s.take k ++ q :: s.drop (k + 1)) by rw [← hs]]
      rw [goalsF_append, hkl, Nat.zero_add]
      simp only [goalsF, PT.subs] at hA ⊢
      rw [hA]
      simp
    · rw [replT_cons hq] at hq2
      obtain ⟨q', hq', rfl⟩ := Option.map_eq_some_iff.1 hq2
      obtain ⟨hB1, hB2⟩ := hB q' hq'
      rw [show pl ++ [k] ++ p = pl ++ k :: p by simp] at hB1 hB2
      have hset : s.set k q' = s.take k ++ q' :: s.drop (k + 1) := by rw [List.set_eq_take_append_cons_drop, if_pos hl]
      simp only [goalsT, badD_nil, Bool.false_or, hr, decide_false, Bool.false_eq_true, if_false, List.length_set]
      rw [hset, goalsF_append, hkl, Nat.zero_add]
      have hg : goalsF (badD []) pl (w / (2 * s.length)) 0 s = goalsF (badD []) pl (w / (2 * s.length)) 0 (s.take k ++ q :: s.drop (k + 1)) := by rw [← hs]
      rw [hg, goalsF_append, hkl, Nat.zero_add]
      simp only [goalsF, PT.subs] at hB1 hB2 ⊢
      rw [hB1, hB2]
      refine ⟨by simp, by omega⟩
end Go.Proofs.Ytfebcpmbkljaoaa
