/- The plain law of HistoryTree; a map of rows that a call makes. -/
import Derived.Test.YthneinepdbkgeaaBetx
namespace Go.Proofs.Ythneinepdbkgeaa
open Go.RowKit Go.HK
set_option linter.unusedVariables false
set_option linter.unusedSimpArgs false
set_option linter.unusedSectionVars false
/-- The entries below n with a state. -/
def idxP (nodes : List Go.HK.HN) (n : Nat) (s : ByteArray) : List Nat := (List.range n).filter fun j => decide (stateF nodes j = s)
theorem idxP_all (nodes : List Go.HK.HN) : idxP nodes nodes.length = idxOf nodes := rfl
theorem idxP_zero (nodes : List Go.HK.HN) : idxP nodes 0 = fun _ => [] := rfl
theorem idxP_len (nodes : List Go.HK.HN) (n : Nat) (s : ByteArray) : (idxP nodes n s).length ≤ n := by
  have := List.length_filter_le (fun j => decide (stateF nodes j = s)) (List.range n)
  simpa [idxP] using this
theorem idxP_succ (nodes : List Go.HK.HN) (n : Nat) : idxP nodes (n + 1) = fun q => if q = stateF nodes n then idxP nodes n (stateF nodes n) ++ [n] else idxP nodes n q := by
  funext q
  simp only [idxP, List.range_succ, List.filter_append]
  by_cases h : q = stateF nodes n
  · subst h; simp
  · rw [if_neg h]
    have : ¬ stateF nodes n = q := fun e => h e.symm
    simp [this]
section
variable {nodes : List Go.HK.HN} {now : Nat}
theorem kidsOf_mem {n c : Nat} : c ∈ kidsOf nodes n ↔ c < nodes.length ∧ parF nodes c = n := by simp [kidsOf]
theorem kidsOf_asc (n : Nat) : (kidsOf nodes n).Pairwise (· < ·) := List.Pairwise.filter _ List.pairwise_lt_range
theorem kidsOf_at {n i c : Nat} (h : (kidsOf nodes n)[i]? = some c) : c < nodes.length ∧ parF nodes c = n := kidsOf_mem.1 (List.mem_of_getElem? h)
theorem kidsOf_next {n i c d : Nat} (h : (kidsOf nodes n)[i]? = some c) (k : (kidsOf nodes n)[i + 1]? = some d) : c < d := by
  obtain ⟨l1, e1⟩ := List.getElem?_eq_some_iff.1 h
  obtain ⟨l2, e2⟩ := List.getElem?_eq_some_iff.1 k
  have := List.pairwise_iff_getElem.1 (kidsOf_asc (nodes := nodes) n) i (i + 1) l1 l2 (by omega)
  omega
/-- How many entries have their Parent below k. -/
def cntP (nodes : List Go.HK.HN) (k : Nat) : Nat := ((List.range nodes.length).filter fun j => decide (0 ≤ parF nodes j ∧ parF nodes j < k)).length
theorem filter_two (l : List Nat) (f : Nat → Int) (k : Nat) : (l.filter fun j => decide (0 ≤ f j ∧ f j < ((k + 1 : Nat) : Int))).length = (l.filter fun j => decide (0 ≤ f j ∧ f j < (k : Int))).length + (l.filter fun j => decide (f j = (k : Int))).length := by
  induction l with
  | nil => rfl
  | cons x l ih =>
    simp only [List.filter_cons]
    by_cases h1 : f x = (k : Int)
    · have h2 : (0 ≤ f x ∧ f x < ((k + 1 : Nat) : Int)) := by omega
      have h3 : ¬ (0 ≤ f x ∧ f x < (k : Int)) := by omega
      simp only [h1, h2, h3, decide_true, decide_false, if_true, List.length_cons]
      rw [if_pos (by simp; omega), if_neg (by simp)]
      simp only [List.length_cons]
      omega
    · by_cases h2 : 0 ≤ f x ∧ f x < (k : Int)
      · have h3 : (0 ≤ f x ∧ f x < ((k + 1 : Nat) : Int)) := by omega
        rw [if_pos (by simpa using h3), if_pos (by simpa using h2), if_neg (by simpa using h1)]
        simp only [List.length_cons]
        omega
      · have h3 : ¬ (0 ≤ f x ∧ f x < ((k + 1 : Nat) : Int)) := by omega
        rw [if_neg (by simpa using h3), if_neg (by simpa using h2), if_neg (by simpa using h1)]
        exact ih
theorem cntP_zero : cntP nodes 0 = 0 := by
  unfold cntP
  rw [List.length_eq_zero_iff, List.filter_eq_nil_iff]
  intro a _ h
  have := of_decide_eq_true h
  omega
theorem cntP_succ (k : Nat) : cntP nodes (k + 1) = cntP nodes k + (kidsOf nodes k).length := filter_two _ _ _
theorem cntP_le (k : Nat) : cntP nodes k ≤ nodes.length := by
  have := List.length_filter_le (fun j => decide (0 ≤ parF nodes j ∧ parF nodes j < (k : Int))) (List.range nodes.length)
  simpa [cntP] using this
theorem cntP_all (h : WF nodes now) : cntP nodes nodes.length + 1 = nodes.length := by
  have key : ∀ m, m + 1 ≤ nodes.length → ((List.range (m + 1)).filter fun j => decide (0 ≤ parF nodes j ∧ parF nodes j < (nodes.length : Int))).length = m := by
    intro m
    induction m with
    | zero =>
      intro _
      have := h.root
      simp [List.range_succ, this]
    | succ m ih =>
      intro hm
      have hp := h.par (m + 1) (by omega) (by omega)
      rw [List.range_succ, List.filter_append, List.length_append, ih (by omega)]
      have : (0 ≤ parF nodes (m + 1) ∧ parF nodes (m + 1) < (nodes.length : Int)) := by omega
      simp [this]
  obtain ⟨m, hm⟩ : ∃ m, nodes.length = m + 1 := ⟨nodes.length - 1, by have := h.pos; omega⟩
  have := key m (by omega)
  unfold cntP
  rw [hm] at this ⊢
  omega
end
/-- A map from states to rows, all of it made behind block B. -/
structure GrpC (w : World) (B m : Nat) (es : Array MapEntry) (clock : Nat) (gs : List (ByteArray × Value)) (xf : ByteArray → List Nat) : Prop where
  hM : w.heap[m]? = some (.map es clock)
  hMI : MapIs es.toList gs
  hkeys : (gs.map (·.1)).Nodup
  hG : ∀ (i : Nat) (s : ByteArray) (v : Value), gs[i]? = some (s, v) → w.ownsRow B 3 1 v (xf s).length (ints (xf s))
  hX : ∀ s, (∀ v, (s, v) ∉ gs) → xf s = []
  hnd : ((gs.map (·.2)).filterMap Value.ownBlock).Nodup
theorem gfind_none {s : ByteArray} : ∀ (l : List (ByteArray × Value)) (i : Nat), gfind s l i = none → ∀ v, (s, v) ∉ l
  | [], _, _, _, hx => by cases hx
  | p :: l, i, hl, v, hx => by
    simp only [gfind] at hl
    split at hl
    · cases hl
    · rename_i hsp
      rcases List.mem_cons.1 hx with e | hx
      · rw [← e] at hsp; exact hsp rfl
      · exact gfind_none l _ hl v hx
section
variable {w w' : World} {B m : Nat} {es : Array MapEntry} {clock : Nat} {gs : List (ByteArray × Value)} {xf : ByteArray → List Nat}
theorem GrpC.start (w : World) (B : Nat) : GrpC (w.alloc (.map #[] 0)) B w.heap.size #[] 0 [] (fun _ => []) where
  hM := blk_new w _
  hMI := rfl
  hkeys := by simp
  hG := fun i s v h => by simp at h
  hX := fun _ _ => rfl
  hnd := by simp
theorem GrpC.stay (h : GrpC w B m es clock gs xf) (hB : Below w.heap.size w w') : GrpC w' B m es clock gs xf :=
  have hf : Frm (fun _ => False) w w' := Frm.of_below hB _
  ⟨hf.heap h.hM id, h.hMI, h.hkeys, fun i s v hs => hf.owns (h.hG i s v hs) (fun _ _ => id), h.hX, h.hnd⟩
theorem GrpC.grp (h : GrpC w B m es clock gs xf) (s : ByteArray) : w.ownsRow B 3 1 ((gget gs s).getD (.slice none 0 0)) (xf s).length (ints (xf s)) := by
  unfold gget
  cases hf : gfind s gs 0 with
  | none =>
    rw [h.hX s (gfind_none gs 0 hf)]
    exact World.ownsRow_nil _ _ _ _
  | some q =>
    obtain ⟨j, v⟩ := q
    obtain ⟨k, _, hk⟩ := gfind_mem hf
    exact h.hG k s v hk
theorem GrpC.nm (h : GrpC w B m es clock gs xf) (s : ByteArray) : ((gget gs s).getD (.slice none 0 0)).ownBlock ≠ some m := owns_ne_type (h.grp s) h.hM (fun c e => by cases e)
theorem own_pos {w : World} {B : Nat} {v : Value} {n : Nat} {xs : List Value} (h : w.ownsRow B 3 1 v n xs) (hp : 0 < n) : ∃ g, v.ownBlock = some g := by
  obtain ⟨g, c, rfl, _, _⟩ := h.form hp
  exact ⟨g, rfl⟩
theorem GrpC.file (h : GrpC w B m es clock gs xf) {s : ByteArray} {v' : Value} {n : Nat} {es' : Array MapEntry} {clock' : Nat}
    (hf : Frm (fun b => b = m ∨ ((gget gs s).getD (.slice none 0 0)).ownBlock = some b) w w') (hM' : w'.heap[m]? = some (.map es' clock')) (hMI' : MapIs es'.toList (gput gs s v'))
    (hown : w'.ownsRow B 3 1 v' ((xf s).length + 1) (ints (xf s) ++ [.int .i64 n]))
    (hloc : v'.ownBlock = ((gget gs s).getD (.slice none 0 0)).ownBlock ∨ ∃ g, v'.ownBlock = some g ∧ w.heap.size ≤ g) :
    GrpC w' B m es' clock' (gput gs s v') (fun q => if q = s then xf s ++ [n] else xf q) := by
  have hown' : w'.ownsRow B 3 1 v' (xf s ++ [n]).length (ints (xf s ++ [n])) := by
    rw [ints_append, List.length_append]; exact hown
  have hlt : ∀ x ∈ (gs.map (·.2)).filterMap Value.ownBlock, x < w.heap.size := by
    intro x hx
    obtain ⟨v, hv, hvx⟩ := List.mem_filterMap.1 hx
    obtain ⟨p, hp, rfl⟩ := List.mem_map.1 hv
    obtain ⟨i, hi⟩ := List.mem_iff_getElem?.1 hp
    exact own_lt (h.hG i p.1 p.2 hi) x hvx
  have hmv : ∀ (i : Nat) (q : ByteArray) (v : Value), gs[i]? = some (q, v) → v.ownBlock ≠ some m := fun i q v hi => owns_ne_type (h.hG i q v hi) h.hM (fun c e => by cases e)
  cases hfd : gfind s gs 0 with
  | none =>
    have hgg : gget gs s = none := by simp [gget, hfd]
    rw [hgg] at hf hloc
    simp only [Option.getD_none] at hf hloc
    have hno := gfind_none gs 0 hfd
    have hput : gput gs s v' = gs ++ [(s, v')] := gput_new hfd
    obtain ⟨g', hg', hHg⟩ : ∃ g, v'.ownBlock = some g ∧ w.heap.size ≤ g := by
      rcases hloc with h1 | h1
      · obtain ⟨g, hg⟩ := own_pos hown (by omega)
        rw [hg] at h1
        simp [Value.ownBlock] at h1
      · exact h1
    rw [hput] at hMI' ⊢
    refine ⟨hM', hMI', ?_, ?_, ?_, ?_⟩
    · rw [List.map_append, List.nodup_append]
      refine ⟨h.hkeys, by simp, ?_⟩
      intro a ha b hb
      simp at hb
      subst hb
      rintro rfl
      obtain ⟨p, hp, rfl⟩ := List.mem_map.1 ha
      exact hno p.2 hp
    · intro i q v hq
      rcases Nat.lt_or_ge i gs.length with hlt | hge
      · rw [List.getElem?_append_left hlt] at hq
        have hqs : q ≠ s := by rintro rfl; exact hno v (List.mem_of_getElem? hq)
        rw [if_neg hqs]
        exact hf.owns (h.hG i q v hq) (fun g hg => fun h0 => h0.elim (fun e => hmv i q v hq (e ▸ hg)) (fun e => (by cases e)))
      · rw [List.getElem?_append_right hge] at hq
        have hi0 : i - gs.length = 0 := by
          rcases Nat.eq_zero_or_pos (i - gs.length) with h0 | h0
          · exact h0
          · rw [List.getElem?_eq_none (by simp; omega)] at hq; cases hq
        rw [hi0] at hq
        simp at hq
        obtain ⟨rfl, rfl⟩ := hq
        simp only [if_true]
        exact hown'
    · intro q hq
      split
      · rename_i e
        subst e
        exact absurd (by simp) (hq v')
      · exact h.hX q (fun v hv => hq v (List.mem_append_left _ hv))
    · rw [List.map_append, List.filterMap_append, List.nodup_append]
      refine ⟨h.hnd, by simp [hg'], ?_⟩
      intro a ha b hb
      simp [hg'] at hb
      subst hb
      have := hlt a ha
      omega
  | some q =>
    obtain ⟨j, u⟩ := q
    obtain ⟨j', hj', hmem⟩ := gfind_mem hfd
    obtain rfl : j = j' := by omega
    have hgg : gget gs s = some u := by simp [gget, hfd]
    rw [hgg] at hf hloc
    simp only [Option.getD_some] at hf hloc
    have hput : gput gs s v' = gs.set j (s, v') := by rw [gput_set hfd]; rfl
    have hjl : j < gs.length := (List.getElem?_eq_some_iff.1 hmem).1
    have hmem2 : (gs.map (·.2))[j]? = some u := by simp [hmem]
    obtain ⟨r1, r2⟩ := fm_set (f := Value.ownBlock) (H := w.heap.size) hmem2 hloc hlt h.hnd
    have hkeys' : (gs.set j (s, v')).map (·.1) = gs.map (·.1) := by
      rw [List.map_set]
      apply List.ext_getElem?
      intro i
      rw [List.getElem?_set]
      split
      · rename_i e
        subst e
        obtain ⟨hl, he⟩ := List.getElem?_eq_some_iff.1 hmem
        simp [hjl, he]
      · rfl
    have huniq : ∀ (i : Nat) (v : Value), gs[i]? = some (s, v) → i = j := fun i v hi => by
      have hk := h.hkeys
      have h1 : (gs.map (·.1))[i]? = some s := by simp [hi]
      have h2 : (gs.map (·.1))[j]? = some s := by simp [hmem]
      obtain ⟨l1, e1⟩ := List.getElem?_eq_some_iff.1 h1
      obtain ⟨l2, e2⟩ := List.getElem?_eq_some_iff.1 h2
      exact (List.getElem_inj hk).1 (e1.trans e2.symm)
    rw [hput] at hMI' ⊢
    refine ⟨hM', hMI', by rw [hkeys']; exact h.hkeys, ?_, ?_, by rw [List.map_set]; exact r1⟩
    · intro i q v hq
      rw [List.getElem?_set] at hq
      split at hq
      · simp only [hjl, if_true, Option.some.injEq, Prod.mk.injEq] at hq
        obtain ⟨rfl, rfl⟩ := hq
        simp only [if_true]
        exact hown'
      · rename_i hij
        have hqs : q ≠ s := by rintro rfl; exact hij (huniq i v hq).symm
        rw [if_neg hqs]
        have hq2 : (gs.map (·.2))[i]? = some v := by simp [hq]
        exact hf.owns (h.hG i q v hq) (fun g hg => fun h0 => h0.elim (fun e => hmv i q v hq (e ▸ hg)) (fun e => fm_ne h.hnd hmem2 hq2 hij e hg))
    · intro q hq
      split
      · rename_i e
        subst e
        refine absurd ?_ (hq v')
        exact List.mem_of_getElem? (i := j) (by simp [hjl])
      · rename_i hqs
        refine h.hX q (fun v hv => ?_)
        obtain ⟨i, hi⟩ := List.mem_iff_getElem?.1 hv
        refine hq v (List.mem_of_getElem? (i := i) ?_)
        rw [List.getElem?_set]
        split
        · rename_i e; subst e; rw [hmem] at hi; cases hi; exact absurd rfl hqs
        · exact hi
end
end Go.Proofs.Ythneinepdbkgeaa
