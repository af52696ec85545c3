/- The history tree in memory: what a world holds of it, and how this changes when a node is added, an index filed under its state or its parent, a favourite or the present entry set. No program in sight. -/
import Derived.Test.YthneinepdbkgeaaKit
namespace Go.HK
open Go Go.RowKit
set_option linter.unusedVariables false
set_option linter.unusedSimpArgs false
set_option linter.unusedSectionVars false

structure HN where
  par : Int
  tick : Int
  note : ByteArray
  state : ByteArray
  fav : Int

def nodeCells (x : HN) (k : Value) : List Value := [.int .i64 x.par, .int .i64 x.tick, .string x.note, .string x.state, k, .int .i64 x.fav]
def flat : List HN → List Value → List Value
  | x :: xs, k :: ks => nodeCells x k ++ flat xs ks
  | _, _ => []
def ints (l : List Nat) : List Value := l.map (fun j : Nat => Value.int .i64 j)
@[simp] theorem ints_length (l : List Nat) : (ints l).length = l.length := by simp [ints]
theorem ints_append (l r : List Nat) : ints (l ++ r) = ints l ++ ints r := by simp [ints]
@[simp] theorem nodeCells_length (x : HN) (k : Value) : (nodeCells x k).length = 6 := rfl

theorem flat_length : ∀ (xs : List HN) (ks : List Value), ks.length = xs.length → (flat xs ks).length = xs.length * 6
  | [], [], _ => rfl
  | [], _ :: _, h => by simp at h
  | _ :: _, [], h => by simp at h
  | x :: xs, k :: ks, h => by
    simp only [flat, List.length_append, nodeCells_length, List.length_cons]
    rw [flat_length xs ks (by simpa using h)]
    omega
theorem flat_append : ∀ (xs : List HN) (ks : List Value) (ys : List HN) (js : List Value), ks.length = xs.length → flat (xs ++ ys) (ks ++ js) = flat xs ks ++ flat ys js
  | [], [], _, _, _ => rfl
  | [], _ :: _, _, _, h => by simp at h
  | _ :: _, [], _, _, h => by simp at h
  | x :: xs, k :: ks, ys, js, h => by
    simp only [List.cons_append, flat]
    rw [flat_append xs ks ys js (by simpa using h), List.append_assoc]
theorem flat_get : ∀ (xs : List HN) (ks : List Value) (i j : Nat) (x : HN) (k : Value), xs[i]? = some x → ks[i]? = some k → j < 6 → (flat xs ks)[i * 6 + j]? = (nodeCells x k)[j]?
  | [], _, i, _, _, _, h, _, _ => by simp at h
  | _ :: _, [], i, _, _, _, _, h, _ => by simp at h
  | x :: xs, k :: ks, 0, j, x', k', h, h', hj => by
    simp at h h'
    subst h; subst h'
    simp only [flat, Nat.zero_mul, Nat.zero_add]
    rw [List.getElem?_append_left (by simpa using hj)]
  | x :: xs, k :: ks, i + 1, j, x', k', h, h', hj => by
    simp at h h'
    simp only [flat]
    rw [List.getElem?_append_right (by simp; omega), nodeCells_length, show (i + 1) * 6 + j - 6 = i * 6 + j by omega]
    exact flat_get xs ks i j x' k' h h' hj
theorem flat_set_kid : ∀ (xs : List HN) (ks : List Value) (i : Nat) (v : Value), ks.length = xs.length → (flat xs ks).set (i * 6 + 4) v = flat xs (ks.set i v)
  | [], [], _, _, _ => rfl
  | [], _ :: _, _, _, h => by simp at h
  | _ :: _, [], _, _, h => by simp at h
  | x :: xs, k :: ks, 0, v, h => by simp [flat, nodeCells]
  | x :: xs, k :: ks, i + 1, v, h => by
    simp only [flat, List.set_cons_succ]
    rw [show (i + 1) * 6 + 4 = (nodeCells x k).length + (i * 6 + 4) by simp; omega, List.set_append_right _ _ (by omega)]
    rw [show (nodeCells x k).length + (i * 6 + 4) - (nodeCells x k).length = i * 6 + 4 by omega, flat_set_kid xs ks i v (by simpa using h)]
theorem flat_set_fav : ∀ (xs : List HN) (ks : List Value) (i : Nat) (f : Int), ks.length = xs.length → (flat xs ks).set (i * 6 + 5) (.int .i64 f) = flat (xs.modify i fun x => { x with fav := f }) ks
  | [], [], _, _, _ => by simp [flat]
  | [], _ :: _, _, _, h => by simp at h
  | _ :: _, [], _, _, h => by simp at h
  | x :: xs, k :: ks, 0, f, h => by simp [flat, nodeCells, List.modify]
  | x :: xs, k :: ks, i + 1, f, h => by
    simp only [flat, List.modify_succ_cons]
    rw [show (i + 1) * 6 + 5 = (nodeCells x k).length + (i * 6 + 5) by simp; omega, List.set_append_right _ _ (by omega)]
    rw [show (nodeCells x k).length + (i * 6 + 5) - (nodeCells x k).length = i * 6 + 5 by omega, flat_set_fav xs ks i f (by simpa using h)]

/-! ### footprints -/
theorem fm_set {α : Type} {f : α → Option Nat} {H : Nat} : ∀ {l : List α} {i : Nat} {a b : α}, l[i]? = some a → (f b = f a ∨ ∃ g, f b = some g ∧ H ≤ g) →
    (∀ x ∈ l.filterMap f, x < H) → (l.filterMap f).Nodup → ((l.set i b).filterMap f).Nodup ∧ ∀ x ∈ (l.set i b).filterMap f, x ∈ l.filterMap f ∨ H ≤ x
  | [], _, _, _, h, _, _, _ => by simp at h
  | c :: l, 0, a, b, h, hb, hlt, hnd => by
    simp at h
    subst h
    simp only [List.set_cons_zero]
    rcases hb with hb | ⟨g, hg, hH⟩
    · have e : (b :: l).filterMap f = (c :: l).filterMap f := by simp only [List.filterMap_cons, hb]
      rw [e]
      exact ⟨hnd, fun x hx => .inl hx⟩
    · have e : (b :: l).filterMap f = g :: l.filterMap f := by simp [List.filterMap_cons, hg]
      have hsub : ∀ x ∈ l.filterMap f, x ∈ (c :: l).filterMap f := fun x hx => by
        rw [List.filterMap_cons]; split
        · exact hx
        · exact List.mem_cons_of_mem _ hx
      have hnd' : (l.filterMap f).Nodup := by
        rw [List.filterMap_cons] at hnd
        split at hnd
        · exact hnd
        · exact (List.nodup_cons.1 hnd).2
      rw [e]
      refine ⟨List.nodup_cons.2 ⟨fun hx => ?_, hnd'⟩, fun x hx => ?_⟩
      · have := hlt g (hsub g hx)
        omega
      · rcases List.mem_cons.1 hx with rfl | hx
        · exact .inr hH
        · exact .inl (hsub x hx)
  | c :: l, i + 1, a, b, h, hb, hlt, hnd => by
    simp only [List.getElem?_cons_succ] at h
    simp only [List.set_cons_succ]
    rw [List.filterMap_cons] at hnd ⊢
    have hlt' : ∀ x ∈ l.filterMap f, x < H := fun x hx => hlt x (by
      rw [List.filterMap_cons]; split
      · exact hx
      · exact List.mem_cons_of_mem _ hx)
    cases hc : f c with
    | none =>
      rw [hc] at hnd
      simp only [List.filterMap_cons, hc]
      exact fm_set h hb hlt' hnd
    | some q =>
      rw [hc] at hnd
      simp only [List.filterMap_cons, hc]
      have hq : q < H := hlt q (by simp [List.filterMap_cons, hc])
      obtain ⟨hn1, hn2⟩ := List.nodup_cons.1 hnd
      obtain ⟨r1, r2⟩ := fm_set h hb hlt' hn2
      refine ⟨List.nodup_cons.2 ⟨fun hx => ?_, r1⟩, fun x hx => ?_⟩
      · rcases r2 q hx with h1 | h1
        · exact hn1 h1
        · omega
      · rcases List.mem_cons.1 hx with rfl | hx
        · exact .inl (by simp)
        · rcases r2 x hx with h1 | h1
          · exact .inl (List.mem_cons_of_mem _ h1)
          · exact .inr h1
/-- Two places of a list whose blocks are all different hold different blocks. -/
theorem fm_ne {α : Type} {f : α → Option Nat} : ∀ {l : List α} {i j : Nat} {a b : α} {g : Nat}, (l.filterMap f).Nodup → l[i]? = some a → l[j]? = some b → i ≠ j → f a = some g → f b ≠ some g
  | [], _, _, _, _, _, _, h, _, _, _ => by simp at h
  | c :: l, i, j, a, b, g, hnd, hi, hj, hij, hfa => by
    rw [List.filterMap_cons] at hnd
    have hnd' : (l.filterMap f).Nodup := by
      split at hnd
      · exact hnd
      · exact (List.nodup_cons.1 hnd).2
    intro hfb
    match i, j with
    | 0, 0 => exact hij rfl
    | 0, j + 1 =>
      simp at hi hj
      subst hi
      rw [hfa] at hnd
      exact (List.nodup_cons.1 hnd).1 (List.mem_filterMap.2 ⟨b, List.mem_of_getElem? hj, hfb⟩)
    | i + 1, 0 =>
      simp at hi hj
      subst hj
      rw [hfb] at hnd
      exact (List.nodup_cons.1 hnd).1 (List.mem_filterMap.2 ⟨a, List.mem_of_getElem? hi, hfa⟩)
    | i + 1, j + 1 =>
      simp only [List.getElem?_cons_succ] at hi hj
      exact fm_ne hnd' hi hj (by omega) hfa hfb

/-- All values that own a block of the tree. -/
def tvals (nv : Value) (kv : List Value) (gs : List (ByteArray × Value)) : List Value := nv :: (kv ++ gs.map (·.2))
def foot (t m : Nat) (nv : Value) (kv : List Value) (gs : List (ByteArray × Value)) : List Nat := t :: m :: (tvals nv kv gs).filterMap Value.ownBlock

structure TreeC (w : World) (t : Nat) (nv : Value) (m : Nat) (kv : List Value) (es : Array MapEntry) (clock : Nat) (gs : List (ByteArray × Value))
    (nodes : List HN) (kf : Nat → List Nat) (xf : ByteArray → List Nat) (now : Nat) : Prop where
  hT : w.heap[t]? = some (.cells #[nv, .map (some m), .int .i64 now, .pointer (some ⟨t, 0, none⟩)] 81 (0, 0))
  hN : w.ownsRow 0 85 6 nv nodes.length (flat nodes kv)
  hkl : kv.length = nodes.length
  hK : ∀ (i : Nat) (k : Value), kv[i]? = some k → w.ownsRow 0 3 1 k (kf i).length (ints (kf i))
  hM : w.heap[m]? = some (.map es clock)
  hMI : MapIs es.toList gs
  hkeys : (gs.map (·.1)).Nodup
  hG : ∀ (i : Nat) (s : ByteArray) (v : Value), gs[i]? = some (s, v) → w.ownsRow 0 3 1 v (xf s).length (ints (xf s))
  hX : ∀ s, (∀ v, (s, v) ∉ gs) → xf s = []
  hnd : (foot t m nv kv gs).Nodup

def TreeG (w : World) (t : Nat) (F : List Nat) (nodes : List HN) (kf : Nat → List Nat) (xf : ByteArray → List Nat) (now : Nat) : Prop :=
  ∃ nv m kv es clock gs, TreeC w t nv m kv es clock gs nodes kf xf now ∧ F = foot t m nv kv gs

section
variable {w w' : World} {t : Nat} {nv : Value} {m : Nat} {kv : List Value} {es : Array MapEntry} {clock : Nat} {gs : List (ByteArray × Value)} {nodes : List HN} {kf : Nat → List Nat} {xf : ByteArray → List Nat} {now : Nat}

theorem TreeC.lt (h : TreeC w t nv m kv es clock gs nodes kf xf now) : ∀ b ∈ foot t m nv kv gs, b < w.heap.size := by
  intro b hb
  simp only [foot, List.mem_cons, List.mem_filterMap, tvals, List.mem_append, List.mem_map] at hb
  rcases hb with rfl | rfl | ⟨v, hv, hvb⟩
  · exact blk_lt h.hT
  · exact blk_lt h.hM
  · rcases hv with rfl | hv | ⟨p, hp, rfl⟩
    · exact (h.hN.lt b hvb).2
    · obtain ⟨i, hi⟩ := List.mem_iff_getElem?.1 hv
      exact ((h.hK i v hi).lt b hvb).2
    · obtain ⟨i, hi⟩ := List.mem_iff_getElem?.1 hp
      exact ((h.hG i p.1 p.2 hi).lt b hvb).2

/-- It stays where nothing of its footprint turns. -/
theorem TreeC.stay (h : TreeC w t nv m kv es clock gs nodes kf xf now) {F : Nat → Prop} (hf : Frm F w w') (hF : ∀ b ∈ foot t m nv kv gs, ¬ F b) : TreeC w' t nv m kv es clock gs nodes kf xf now := by
  have hin : ∀ v ∈ tvals nv kv gs, ∀ g, v.ownBlock = some g → ¬ F g := fun v hv g hg => hF g (by
    simp only [foot, List.mem_cons, List.mem_filterMap]; exact .inr (.inr ⟨v, hv, hg⟩))
  exact {
    hT := hf.heap h.hT (hF t (by simp [foot]))
    hN := hf.owns h.hN (hin nv (by simp [tvals]))
    hkl := h.hkl
    hK := fun i k hk => hf.owns (h.hK i k hk) (hin k (by simp [tvals, List.mem_of_getElem? hk]))
    hM := hf.heap h.hM (hF m (by simp [foot]))
    hMI := h.hMI
    hkeys := h.hkeys
    hG := fun i s v hs => hf.owns (h.hG i s v hs) (hin v (by simp only [tvals, List.mem_cons, List.mem_append, List.mem_map]; exact .inr (.inr ⟨(s, v), List.mem_of_getElem? hs, rfl⟩)))
    hX := h.hX
    hnd := h.hnd }

theorem TreeG.stay {F : List Nat} (h : TreeG w t F nodes kf xf now) {G : Nat → Prop} (hf : Frm G w w') (hF : ∀ b ∈ F, ¬ G b) : TreeG w' t F nodes kf xf now := by
  obtain ⟨nv, m, kv, es, clock, gs, hc, rfl⟩ := h
  exact ⟨nv, m, kv, es, clock, gs, hc.stay hf hF, rfl⟩
theorem TreeG.lt {F : List Nat} (h : TreeG w t F nodes kf xf now) : ∀ b ∈ F, b < w.heap.size := by
  obtain ⟨nv, m, kv, es, clock, gs, hc, rfl⟩ := h
  exact hc.lt

theorem TreeC.ne (h : TreeC w t nv m kv es clock gs nodes kf xf now) : t ≠ m ∧ (∀ v ∈ tvals nv kv gs, v.ownBlock ≠ some t ∧ v.ownBlock ≠ some m) := by
  have := h.hnd
  simp only [foot, List.nodup_cons, List.mem_cons, not_or] at this
  obtain ⟨⟨h1, h2⟩, h3, _⟩ := this
  refine ⟨h1, fun v hv => ⟨fun e => h2 (List.mem_filterMap.2 ⟨v, hv, e⟩), fun e => h3 (List.mem_filterMap.2 ⟨v, hv, e⟩)⟩⟩
theorem TreeC.vnd (h : TreeC w t nv m kv es clock gs nodes kf xf now) : ((tvals nv kv gs).filterMap Value.ownBlock).Nodup := by
  have := h.hnd
  simp only [foot, List.nodup_cons] at this
  exact this.2.2
theorem tv_kid {i : Nat} {k : Value} (h : kv[i]? = some k) : (tvals nv kv gs)[i + 1]? = some k := by
  simp only [tvals, List.getElem?_cons_succ]
  rw [List.getElem?_append_left (List.getElem?_eq_some_iff.1 h).1]
  exact h
theorem tv_grp {i : Nat} {p : ByteArray × Value} (h : gs[i]? = some p) : (tvals nv kv gs)[kv.length + i + 1]? = some p.2 := by
  simp only [tvals, List.getElem?_cons_succ]
  rw [List.getElem?_append_right (by omega), show kv.length + i - kv.length = i by omega]
  simp [h]
theorem tv_set_kid {i : Nat} {v : Value} (h : i < kv.length) : tvals nv (kv.set i v) gs = (tvals nv kv gs).set (i + 1) v := by
  simp only [tvals, List.set_cons_succ]
  rw [List.set_append_left _ _ h]
theorem tv_set_grp {i : Nat} {s : ByteArray} {v : Value} : tvals nv kv (gs.set i (s, v)) = (tvals nv kv gs).set (kv.length + i + 1) v := by
  simp only [tvals, List.set_cons_succ]
  rw [List.set_append_right _ _ (by omega), show kv.length + i - kv.length = i by omega, List.map_set]
/-- What the map holds at a state owns the indices under it. -/
theorem TreeC.grp (h : TreeC w t nv m kv es clock gs nodes kf xf now) (s : ByteArray) :
    w.ownsRow 0 3 1 ((gget gs s).getD (.slice none 0 0)) (xf s).length (ints (xf s)) ∧ ((gget gs s).getD (.slice none 0 0) = .slice none 0 0 ∨ (gget gs s).getD (.slice none 0 0) ∈ tvals nv kv gs) := by
  unfold gget
  cases hf : gfind s gs 0 with
  | none =>
    have hno : ∀ v, (s, v) ∉ gs := by
      intro v hv
      have : ∀ (l : List (ByteArray × Value)) (i : Nat), gfind s l i = none → (s, v) ∉ l := by
        intro l
        induction l with
        | nil => intro i _ hx; cases hx
        | cons p l ih =>
          intro i hl hx
          simp only [gfind] at hl
          split at hl
          · cases hl
          · rename_i hsp
            rcases List.mem_cons.1 hx with e | hx
            · rw [← e] at hsp; exact hsp rfl
            · exact ih _ hl hx
      exact this gs 0 hf hv
    rw [h.hX s hno]
    exact ⟨World.ownsRow_nil _ _ _ _, .inl rfl⟩
  | some q =>
    obtain ⟨j, v⟩ := q
    obtain ⟨k, _, hk⟩ := gfind_mem hf
    exact ⟨h.hG k s v hk, .inr (List.mem_of_getElem? (tv_grp hk))⟩
/-- How the footprint turns when one value is replaced. -/
theorem TreeC.foot_set (h : TreeC w t nv m kv es clock gs nodes kf xf now) {nv' : Value} {kv' : List Value} {gs' : List (ByteArray × Value)} {i : Nat} {a b : Value}
    (hi : (tvals nv kv gs)[i]? = some a) (he : tvals nv' kv' gs' = (tvals nv kv gs).set i b) (hb : b.ownBlock = a.ownBlock ∨ ∃ g, b.ownBlock = some g ∧ w.heap.size ≤ g) :
    (foot t m nv' kv' gs').Nodup ∧ ∀ x ∈ foot t m nv' kv' gs', x ∈ foot t m nv kv gs ∨ w.heap.size ≤ x := by
  have hlt := h.lt
  have hvnd := h.vnd
  have hnd := h.hnd
  simp only [foot, List.nodup_cons, List.mem_cons, not_or] at hnd hlt
  obtain ⟨⟨h1, h2⟩, h3, _⟩ := hnd
  obtain ⟨r1, r2⟩ := fm_set (f := Value.ownBlock) (H := w.heap.size) hi hb (fun x hx => hlt x (.inr (.inr hx))) hvnd
  simp only [foot, he]
  have ht := hlt t (.inl rfl)
  have hm := hlt m (.inr (.inl rfl))
  refine ⟨?_, fun x hx => ?_⟩
  · simp only [List.nodup_cons, List.mem_cons, not_or]
    refine ⟨⟨h1, fun hx => ?_⟩, fun hx => ?_, r1⟩
    · rcases r2 t hx with h' | h'
      · exact h2 h'
      · omega
    · rcases r2 m hx with h' | h'
      · exact h3 h'
      · omega
  · simp only [List.mem_cons] at hx ⊢
    rcases hx with rfl | rfl | hx
    · exact .inl (.inl rfl)
    · exact .inl (.inr (.inl rfl))
    · rcases r2 x hx with h' | h'
      · exact .inl (.inr (.inr h'))
      · exact .inr h'

/-- (1) A node more. -/
theorem TreeC.node (h : TreeC w t nv m kv es clock gs nodes kf xf now) {nv' : Value} {x : HN} (hf : Frm (fun b => b = t ∨ nv.ownBlock = some b) w w')
    (hT' : w'.heap[t]? = some (.cells #[nv', .map (some m), .int .i64 now, .pointer (some ⟨t, 0, none⟩)] 81 (0, 0)))
    (hN' : w'.ownsRow 0 85 6 nv' (nodes.length + 1) (flat nodes kv ++ nodeCells x (.slice none 0 0)))
    (hloc : nv'.ownBlock = nv.ownBlock ∨ ∃ g, nv'.ownBlock = some g ∧ w.heap.size ≤ g) (hk : kf nodes.length = []) :
    TreeC w' t nv' m (kv ++ [.slice none 0 0]) es clock gs (nodes ++ [x]) kf xf now ∧ ∀ b ∈ foot t m nv' (kv ++ [.slice none 0 0]) gs, b ∈ foot t m nv kv gs ∨ w.heap.size ≤ b := by
  obtain ⟨hne, hvne⟩ := h.ne
  have hvnd := h.vnd
  have e0 : (tvals nv' (kv ++ [.slice none 0 0]) gs).filterMap Value.ownBlock = (tvals nv' kv gs).filterMap Value.ownBlock := by
    simp only [tvals, List.filterMap_cons, List.filterMap_append]
    simp [Value.ownBlock]
  have e1 : foot t m nv' (kv ++ [.slice none 0 0]) gs = foot t m nv' kv gs := by simp only [foot, e0]
  obtain ⟨r1, r2⟩ := h.foot_set (nv' := nv') (kv' := kv) (gs' := gs) (i := 0) (a := nv) (b := nv') rfl rfl hloc
  have hkid : ∀ (i : Nat) (k : Value), kv[i]? = some k → ∀ g, k.ownBlock = some g → ¬ (g = t ∨ nv.ownBlock = some g) := fun i k hk g hg => by
    rintro (rfl | e)
    · exact (hvne k (List.mem_of_getElem? (tv_kid hk))).1 hg
    · exact fm_ne hvnd (i := 0) (j := i + 1) rfl (tv_kid hk) (by omega) e hg
  have hgrp : ∀ (i : Nat) (s : ByteArray) (v : Value), gs[i]? = some (s, v) → ∀ g, v.ownBlock = some g → ¬ (g = t ∨ nv.ownBlock = some g) := fun i s v hk g hg => by
    rintro (rfl | e)
    · exact (hvne v (List.mem_of_getElem? (tv_grp hk))).1 hg
    · exact fm_ne hvnd (i := 0) (j := kv.length + i + 1) rfl (tv_grp hk) (by omega) e hg
  refine ⟨{
    hT := hT'
    hN := ?_
    hkl := by simp [h.hkl]
    hK := fun i k hi => ?_
    hM := hf.heap h.hM ?_
    hMI := h.hMI
    hkeys := h.hkeys
    hG := fun i s v hs => hf.owns (h.hG i s v hs) (hgrp i s v hs)
    hX := h.hX
    hnd := by rw [e1]; exact r1 }, by rw [e1]; exact r2⟩
  · have : flat (nodes ++ [x]) (kv ++ [.slice none 0 0]) = flat nodes kv ++ nodeCells x (.slice none 0 0) := by
      rw [flat_append _ _ _ _ h.hkl]; simp [flat]
    rw [this, List.length_append]
    exact hN'
  · rcases Nat.lt_or_ge i kv.length with hlt | hge
    · rw [List.getElem?_append_left hlt] at hi
      exact hf.owns (h.hK i k hi) (hkid i k hi)
    · rw [List.getElem?_append_right hge] at hi
      have hi0 : i - kv.length = 0 := by
        rcases Nat.eq_zero_or_pos (i - kv.length) with h0 | h0
        · exact h0
        · rw [List.getElem?_eq_none (by simp; omega)] at hi; cases hi
      rw [hi0] at hi
      simp at hi
      subst hi
      have : i = nodes.length := by have := h.hkl; omega
      rw [this, hk]
      exact World.ownsRow_nil _ _ _ _
  · rintro (e | e)
    · exact hne e.symm
    · exact (hvne nv (by simp [tvals])).2 e

/-- (2) An index more under a state. -/
theorem TreeC.file (h : TreeC w t nv m kv es clock gs nodes kf xf now) {s : ByteArray} {v' : Value} {n : Nat} {es' : Array MapEntry} {clock' : Nat}
    (hf : Frm (fun b => b = m ∨ ((gget gs s).getD (.slice none 0 0)).ownBlock = some b) w w') (hM' : w'.heap[m]? = some (.map es' clock')) (hMI' : MapIs es'.toList (gput gs s v'))
    (hown : w'.ownsRow 0 3 1 v' ((xf s).length + 1) (ints (xf s) ++ [.int .i64 n]))
    (hloc : v'.ownBlock = ((gget gs s).getD (.slice none 0 0)).ownBlock ∨ ∃ g, v'.ownBlock = some g ∧ w.heap.size ≤ g) :
    TreeC w' t nv m kv es' clock' (gput gs s v') nodes kf (fun q => if q = s then xf s ++ [n] else xf q) now ∧ ∀ b ∈ foot t m nv kv (gput gs s v'), b ∈ foot t m nv kv gs ∨ w.heap.size ≤ b := by
  obtain ⟨hne, hvne⟩ := h.ne
  have hvnd := h.vnd
  have hown' : w'.ownsRow 0 3 1 v' (xf s ++ [n]).length (ints (xf s ++ [n])) := by
    rw [ints_append, List.length_append]; exact hown
  cases hfd : gfind s gs 0 with
  | none =>
    have hgg : gget gs s = none := by simp [gget, hfd]
    rw [hgg] at hf hloc
    simp only [Option.getD_none] at hf hloc
    have hno : ∀ v, (s, v) ∉ gs := by
      intro v hv
      have : ∀ (l : List (ByteArray × Value)) (i : Nat), gfind s l i = none → (s, v) ∉ l := by
        intro l
        induction l with
        | nil => intro i _ hx; cases hx
        | cons p l ih =>
          intro i hl hx
          simp only [gfind] at hl
          split at hl
          · cases hl
          · rename_i hsp
            rcases List.mem_cons.1 hx with e | hx
            · rw [← e] at hsp; exact hsp rfl
            · exact ih _ hl hx
      exact this gs 0 hfd hv
    have hx0 : xf s = [] := h.hX s hno
    have hput : gput gs s v' = gs ++ [(s, v')] := gput_new hfd
    obtain ⟨g', hg', hHg⟩ : ∃ g, v'.ownBlock = some g ∧ w.heap.size ≤ g := by
      rcases hloc with h1 | h1
      · obtain ⟨g, cap, rfl, _⟩ := hown.form (by omega)
        simp [Value.ownBlock] at h1
      · exact h1
    have htv : (tvals nv kv (gs ++ [(s, v')])).filterMap Value.ownBlock = (tvals nv kv gs).filterMap Value.ownBlock ++ [g'] := by
      simp only [tvals, List.map_append, ← List.append_assoc, ← List.cons_append, List.filterMap_append]
      simp [hg']
    have hlt := h.lt
    have hnd0 := h.hnd
    rw [hput]
    refine ⟨{
      hT := hf.heap h.hT (fun h0 => h0.elim (fun e => hne e) (fun e => (by cases e)))
      hN := hf.owns h.hN (fun g hg => fun h0 => h0.elim (fun e => (hvne nv (by simp [tvals])).2 (e ▸ hg)) (fun e => (by cases e)))
      hkl := h.hkl
      hK := fun i k hk => hf.owns (h.hK i k hk) (fun g hg => fun h0 => h0.elim (fun e => (hvne k (List.mem_of_getElem? (tv_kid hk))).2 (e ▸ hg)) (fun e => (by cases e)))
      hM := hM'
      hMI := by rw [hput] at hMI'; exact hMI'
      hkeys := ?_
      hG := fun i q v hq => ?_
      hX := fun q hq => ?_
      hnd := ?_ }, ?_⟩
    · rw [List.map_append, List.nodup_append]
      refine ⟨h.hkeys, by simp, ?_⟩
      intro a ha b hb
      simp at hb
      subst hb
      rintro rfl
      obtain ⟨p, hp, rfl⟩ := List.mem_map.1 ha
      exact hno p.2 hp
    · rcases Nat.lt_or_ge i gs.length with hlt | hge
      · rw [List.getElem?_append_left hlt] at hq
        have hqs : q ≠ s := by rintro rfl; exact hno v (List.mem_of_getElem? hq)
        rw [if_neg hqs]
        exact hf.owns (h.hG i q v hq) (fun g hg => fun h0 => h0.elim (fun e => (hvne v (List.mem_of_getElem? (tv_grp hq))).2 (e ▸ hg)) (fun e => (by cases e)))
      · rw [List.getElem?_append_right hge] at hq
        have hi0 : i - gs.length = 0 := by
          rcases Nat.eq_zero_or_pos (i - gs.length) with h0 | h0
          · exact h0
          · rw [List.getElem?_eq_none (by simp; omega)] at hq; cases hq
        rw [hi0] at hq
        simp at hq
        obtain ⟨rfl, rfl⟩ := hq
        simp only [if_true]
        exact hown'
    · split
      · rename_i e
        subst e
        exact absurd (by simp) (hq v')
      · exact h.hX q (fun v hv => hq v (List.mem_append_left _ hv))
    · simp only [foot, htv]
      simp only [foot] at hnd0 hlt
      rw [← List.cons_append, ← List.cons_append, List.nodup_append]
      refine ⟨hnd0, by simp, ?_⟩
      intro a ha b hb
      simp at hb
      subst hb
      have := hlt a ha
      omega
    · intro b hb
      simp only [foot, htv] at hb
      rw [← List.cons_append, ← List.cons_append] at hb
      rcases List.mem_append.1 hb with hb | hb
      · exact .inl hb
      · simp at hb; subst hb; exact .inr hHg
  | some q =>
    obtain ⟨j, u⟩ := q
    obtain ⟨j', hj', hmem⟩ := gfind_mem hfd
    obtain rfl : j = j' := by omega
    have hgg : gget gs s = some u := by simp [gget, hfd]
    rw [hgg] at hf hloc
    simp only [Option.getD_some] at hf hloc
    have hput : gput gs s v' = gs.set j (s, v') := by rw [gput_set hfd]; rfl
    have hjl : j < gs.length := (List.getElem?_eq_some_iff.1 hmem).1
    obtain ⟨r1, r2⟩ := h.foot_set (nv' := nv) (kv' := kv) (gs' := gs.set j (s, v')) (tv_grp hmem) tv_set_grp hloc
    have hkeys' : (gs.set j (s, v')).map (·.1) = gs.map (·.1) := by
      rw [List.map_set]
      apply List.ext_getElem?
      intro i
      rw [List.getElem?_set]
      split
      · rename_i e
        subst e
        obtain ⟨hl, he⟩ := List.getElem?_eq_some_iff.1 hmem
        simp [hjl, he]
      · rfl
    have huniq : ∀ (i : Nat) (v : Value), gs[i]? = some (s, v) → i = j := fun i v hi => by
      have hk := h.hkeys
      have h1 : (gs.map (·.1))[i]? = some s := by simp [hi]
      have h2 : (gs.map (·.1))[j]? = some s := by simp [hmem]
      obtain ⟨l1, e1⟩ := List.getElem?_eq_some_iff.1 h1
      obtain ⟨l2, e2⟩ := List.getElem?_eq_some_iff.1 h2
      exact (List.getElem_inj hk).1 (e1.trans e2.symm)
    rw [hput]
    refine ⟨{
      hT := hf.heap h.hT (fun h0 => h0.elim (fun e => hne e) (fun e => (hvne u (List.mem_of_getElem? (tv_grp hmem))).1 e))
      hN := hf.owns h.hN (fun g hg => fun h0 => h0.elim (fun e => (hvne nv (by simp [tvals])).2 (e ▸ hg)) (fun e => fm_ne hvnd (i := 0) (j := kv.length + j + 1) rfl (tv_grp hmem) (by omega) hg e))
      hkl := h.hkl
      hK := fun i k hk => hf.owns (h.hK i k hk) (fun g hg => by
        have hil : i < kv.length := (List.getElem?_eq_some_iff.1 hk).1
        exact fun h0 => h0.elim (fun e => (hvne k (List.mem_of_getElem? (tv_kid hk))).2 (e ▸ hg)) (fun e => fm_ne hvnd (tv_kid hk) (tv_grp hmem) (by omega) hg e))
      hM := hM'
      hMI := by rw [hput] at hMI'; exact hMI'
      hkeys := by rw [hkeys']; exact h.hkeys
      hG := fun i q v hq => ?_
      hX := fun q hq => ?_
      hnd := r1 }, r2⟩
    · rw [List.getElem?_set] at hq
      split at hq
      · simp only [hjl, if_true, Option.some.injEq, Prod.mk.injEq] at hq
        obtain ⟨rfl, rfl⟩ := hq
        simp only [if_true]
        exact hown'
      · rename_i hij
        have hqs : q ≠ s := by rintro rfl; exact hij (huniq i v hq).symm
        rw [if_neg hqs]
        exact hf.owns (h.hG i q v hq) (fun g hg => fun h0 => h0.elim (fun e => (hvne v (List.mem_of_getElem? (tv_grp hq))).2 (e ▸ hg)) (fun e => fm_ne hvnd (tv_grp hq) (tv_grp hmem) (by omega) hg e))
    · split
      · rename_i e
        subst e
        refine absurd ?_ (hq v')
        exact List.mem_of_getElem? (i := j) (by simp [hjl])
      · rename_i hqs
        refine h.hX q (fun v hv => ?_)
        obtain ⟨i, hi⟩ := List.mem_iff_getElem?.1 hv
        refine hq v (List.mem_of_getElem? (i := i) ?_)
        rw [List.getElem?_set]
        split
        · rename_i e; subst e; rw [hmem] at hi; cases hi; exact absurd rfl hqs
        · exact hi

/-- (3) A child more. -/
theorem TreeC.child (h : TreeC w t nv m kv es clock gs nodes kf xf now) {i n : Nat} {k k' : Value} (hi : kv[i]? = some k)
    (hf : Frm (fun b => nv.ownBlock = some b ∨ k.ownBlock = some b) w w')
    (hN' : w'.ownsRow 0 85 6 nv nodes.length ((flat nodes kv).set (i * 6 + 4) k'))
    (hown : w'.ownsRow 0 3 1 k' ((kf i).length + 1) (ints (kf i) ++ [.int .i64 n]))
    (hloc : k'.ownBlock = k.ownBlock ∨ ∃ g, k'.ownBlock = some g ∧ w.heap.size ≤ g) :
    TreeC w' t nv m (kv.set i k') es clock gs nodes (fun j => if j = i then kf i ++ [n] else kf j) xf now ∧ ∀ b ∈ foot t m nv (kv.set i k') gs, b ∈ foot t m nv kv gs ∨ w.heap.size ≤ b := by
  obtain ⟨hne, hvne⟩ := h.ne
  have hvnd := h.vnd
  have hil : i < kv.length := (List.getElem?_eq_some_iff.1 hi).1
  obtain ⟨r1, r2⟩ := h.foot_set (nv' := nv) (kv' := kv.set i k') (gs' := gs) (tv_kid hi) (tv_set_kid hil) hloc
  refine ⟨{
    hT := hf.heap h.hT (fun h0 => h0.elim (fun e => (hvne nv (by simp [tvals])).1 e) (fun e => (hvne k (List.mem_of_getElem? (tv_kid hi))).1 e))
    hN := by rw [flat_set_kid _ _ _ _ h.hkl] at hN'; exact hN'
    hkl := by simp [h.hkl]
    hK := fun j u hj => ?_
    hM := hf.heap h.hM (fun h0 => h0.elim (fun e => (hvne nv (by simp [tvals])).2 e) (fun e => (hvne k (List.mem_of_getElem? (tv_kid hi))).2 e))
    hMI := h.hMI
    hkeys := h.hkeys
    hG := fun j s v hs => hf.owns (h.hG j s v hs) (fun g hg => fun h0 => h0.elim (fun e => fm_ne hvnd (i := 0) (j := kv.length + j + 1) rfl (tv_grp hs) (by omega) e hg) (fun e => fm_ne hvnd (tv_kid hi) (tv_grp hs) (by omega) e hg))
    hX := h.hX
    hnd := r1 }, r2⟩
  rw [List.getElem?_set] at hj
  split at hj
  · rename_i e
    subst e
    simp [hil] at hj
    subst hj
    simp only [if_true]
    rw [ints_append, List.length_append]
    exact hown
  · rename_i hij
    rw [if_neg (fun e => hij e.symm)]
    exact hf.owns (h.hK j u hj) (fun g hg => fun h0 => h0.elim (fun e => fm_ne hvnd (i := 0) (j := j + 1) rfl (tv_kid hj) (by omega) e hg) (fun e => fm_ne hvnd (tv_kid hi) (tv_kid hj) (by omega) e hg))

/-- (4) A favourite. -/
theorem TreeC.fav (h : TreeC w t nv m kv es clock gs nodes kf xf now) {i : Nat} {f : Int}
    (hf : Frm (fun b => nv.ownBlock = some b) w w') (hN' : w'.ownsRow 0 85 6 nv nodes.length ((flat nodes kv).set (i * 6 + 5) (.int .i64 f))) :
    TreeC w' t nv m kv es clock gs (nodes.modify i fun x => { x with fav := f }) kf xf now := by
  obtain ⟨hne, hvne⟩ := h.ne
  have hvnd := h.vnd
  exact {
    hT := hf.heap h.hT (fun e => (hvne nv (by simp [tvals])).1 e)
    hN := by rw [flat_set_fav _ _ _ _ h.hkl] at hN'; rw [List.length_modify]; exact hN'
    hkl := by rw [List.length_modify]; exact h.hkl
    hK := fun j u hj => hf.owns (h.hK j u hj) (fun g hg e => fm_ne hvnd (i := 0) (j := j + 1) rfl (tv_kid hj) (by omega) e hg)
    hM := hf.heap h.hM (fun e => (hvne nv (by simp [tvals])).2 e)
    hMI := h.hMI
    hkeys := h.hkeys
    hG := fun j s v hs => hf.owns (h.hG j s v hs) (fun g hg e => fm_ne hvnd (i := 0) (j := kv.length + j + 1) rfl (tv_grp hs) (by omega) e hg)
    hX := h.hX
    hnd := h.hnd }

/-- (5) The present entry. -/
theorem TreeC.at_ (h : TreeC w t nv m kv es clock gs nodes kf xf now) (n : Nat) (hf : Frm (fun b => b = t) w w')
    (hT' : w'.heap[t]? = some (.cells #[nv, .map (some m), .int .i64 n, .pointer (some ⟨t, 0, none⟩)] 81 (0, 0))) : TreeC w' t nv m kv es clock gs nodes kf xf n := by
  obtain ⟨hne, hvne⟩ := h.ne
  exact {
    hT := hT'
    hN := hf.owns h.hN (fun g hg e => (hvne nv (by simp [tvals])).1 (e ▸ hg))
    hkl := h.hkl
    hK := fun j u hj => hf.owns (h.hK j u hj) (fun g hg e => (hvne u (List.mem_of_getElem? (tv_kid hj))).1 (e ▸ hg))
    hM := hf.heap h.hM (fun e => hne e.symm)
    hMI := h.hMI
    hkeys := h.hkeys
    hG := fun j s v hs => hf.owns (h.hG j s v hs) (fun g hg e => (hvne v (List.mem_of_getElem? (tv_grp hs))).1 (e ▸ hg))
    hX := h.hX
    hnd := h.hnd }
end
end Go.HK
