/- Frame: Pap Paq Pmv Prt Smm Pas in one text (pack.py). -/
import Derived.Test.YtflmllablfjfeaaDoorPli
import Derived.Laws.Rows
import Derived.Laws.StructEq
import Derived.Deep.QuietTactic
namespace Go.FR
open Go
set_option linter.unusedVariables false
set_option linter.unusedSimpArgs false
set_option linter.unusedSectionVars false
/-- What is seen from a mask behind the worlds below k. -/
def seeK (rel : List Nat) (s : Nat) : Nat → Nat
  | 0 => s
  | k + 1 => if (seeK rel s k).testBit k = true then seeK rel s k ||| rel.getD k 0 else seeK rel s k
/-- What is seen behind some rounds. -/
def seeN (rel : List Nat) (s : Nat) : Nat → Nat
  | 0 => s
  | i + 1 => seeK rel (seeN rel s i) rel.length
theorem seeK_sub (rel : List Nat) (s : Nat) : ∀ k u, s.testBit u = true → (seeK rel s k).testBit u = true
  | 0, u, h => h
  | k + 1, u, h => by
    have ih := seeK_sub rel s k u h
    unfold seeK
    split
    · rw [Nat.testBit_or, ih]; rfl
    · exact ih
theorem seeK_mono (rel : List Nat) (s : Nat) : ∀ {j k : Nat}, j ≤ k → ∀ u, (seeK rel s j).testBit u = true → (seeK rel s k).testBit u = true
  | j, 0, h, u, hu => by obtain rfl : j = 0 := by omega
                         exact hu
  | j, k + 1, h, u, hu => by
    by_cases e : j = k + 1
    · subst e; exact hu
    · have ih := seeK_mono rel s (show j ≤ k by omega) u hu
      unfold seeK
      split
      · rw [Nat.testBit_or, ih]; rfl
      · exact ih
theorem seeK_lt {rel : List Nat} (hr : FrOk rel) {s : Nat} (hs : s < 2 ^ rel.length) : ∀ k, k ≤ rel.length → seeK rel s k < 2 ^ rel.length
  | 0, _ => hs
  | k + 1, hk => by
    have ih := seeK_lt hr hs k (by omega)
    unfold seeK
    split
    · have hx : rel[k]? = some (rel.getD k 0) := by rw [List.getD_eq_getElem?_getD, List.getElem?_eq_getElem (by omega)]; rfl
      exact Nat.or_lt_two_pow ih (hr.lt k _ hx)
    · exact ih
theorem seeK_least {rel : List Nat} {s : Nat} {T : Nat → Prop} (hc : ∀ u v, T u → (rel.getD u 0).testBit v = true → T v) (hs : ∀ u, s.testBit u = true → T u) : ∀ k u, (seeK rel s k).testBit u = true → T u
  | 0, u, h => hs u h
  | k + 1, u, h => by
    unfold seeK at h
    split at h
    · rename_i e
      rw [Nat.testBit_or, Bool.or_eq_true] at h
      rcases h with h | h
      · exact seeK_least hc hs k u h
      · exact hc k u (seeK_least hc hs k k e) h
    · exact seeK_least hc hs k u h
def cnt (s : Nat) : Nat → Nat
  | 0 => 0
  | k + 1 => cnt s k + (if s.testBit k = true then 1 else 0)
theorem cnt_le (s : Nat) : ∀ k, cnt s k ≤ k
  | 0 => Nat.le_refl _
  | k + 1 => by
    have := cnt_le s k
    unfold cnt
    split <;> omega
theorem cnt_mono {s t : Nat} (h : ∀ u, s.testBit u = true → t.testBit u = true) : ∀ k, cnt s k ≤ cnt t k
  | 0 => Nat.le_refl _
  | k + 1 => by
    have ih := cnt_mono h k
    unfold cnt
    by_cases e : s.testBit k = true
    · rw [if_pos e, if_pos (h k e)]; omega
    · rw [if_neg e]; omega
theorem cnt_lt {s t : Nat} (h : ∀ u, s.testBit u = true → t.testBit u = true) : ∀ k u, u < k → t.testBit u = true → ¬ s.testBit u = true → cnt s k < cnt t k
  | 0, u, hu, _, _ => by omega
  | k + 1, u, hu, ht, hs => by
    unfold cnt
    by_cases e : u = k
    · subst e
      have := cnt_mono h u
      rw [if_neg hs, if_pos ht]; omega
    · have ih := cnt_lt h k u (by omega) ht hs
      by_cases e2 : s.testBit k = true
      · rw [if_pos e2, if_pos (h k e2)]; omega
      · rw [if_neg e2]; omega
theorem cnt_pos {s : Nat} : ∀ k u, u < k → s.testBit u = true → 1 ≤ cnt s k
  | 0, u, hu, _ => by omega
  | k + 1, u, hu, h => by
    unfold cnt
    by_cases e : u = k
    · subst e; rw [if_pos h]; omega
    · have := cnt_pos k u (by omega) h
      omega
/-- A mask that is closed under seeing, the least one with w. -/
structure Seen (rel : List Nat) (w s : Nat) : Prop where
  has : s.testBit w = true
  lt : s < 2 ^ rel.length
  closed : ∀ u v, s.testBit u = true → (rel.getD u 0).testBit v = true → s.testBit v = true
  least : ∀ T : Nat → Prop, T w → (∀ u v, T u → (rel.getD u 0).testBit v = true → T v) → ∀ u, s.testBit u = true → T u
theorem seeN_lt {rel : List Nat} (hr : FrOk rel) {s : Nat} (hs : s < 2 ^ rel.length) : ∀ i, seeN rel s i < 2 ^ rel.length
  | 0 => hs
  | i + 1 => seeK_lt hr (seeN_lt hr hs i) _ (Nat.le_refl _)
theorem fixed_closed {rel : List Nat} {s : Nat} (hs : s < 2 ^ rel.length) (h : seeK rel s rel.length = s) : ∀ u v, s.testBit u = true → (rel.getD u 0).testBit v = true → s.testBit v = true := fun u v hu hv => by
  have hl := bits_lt hs hu
  have h1 : (seeK rel s (u + 1)).testBit v = true := by
    unfold seeK
    rw [if_pos (seeK_sub rel s u u hu), Nat.testBit_or, hv, Bool.or_true]
  rw [← h]
  exact seeK_mono rel s (by omega) v h1
theorem seeN_fixed {rel : List Nat} (hr : FrOk rel) {s w : Nat} (hs : s < 2 ^ rel.length) (hw : s.testBit w = true) : ∀ i, seeK rel (seeN rel s i) rel.length = seeN rel s i ∨ i + 1 ≤ cnt (seeN rel s i) rel.length
  | 0 => .inr (cnt_pos _ w (bits_lt hs hw) hw)
  | i + 1 => by
    have hl := seeN_lt hr hs i
    by_cases e : seeN rel s (i + 1) = seeN rel s i
    · left
      have : seeK rel (seeN rel s i) rel.length = seeN rel s i := e
      rw [e, this]
    · rcases seeN_fixed hr hs hw i with h | h
      · exact absurd h e
      · right
        have hsub := fun u => seeK_sub rel (seeN rel s i) rel.length u
        have hex : ∃ u, u < rel.length ∧ (seeN rel s (i + 1)).testBit u = true ∧ ¬ (seeN rel s i).testBit u = true := by
          refine Classical.byContradiction fun hn => e ?_
          apply Nat.eq_of_testBit_eq
          intro u
          rcases hb : (seeN rel s i).testBit u with _ | _
          · rcases hb2 : (seeN rel s (i + 1)).testBit u with _ | _
            · rfl
            · exact absurd ⟨u, bits_lt (seeN_lt hr hs (i + 1)) hb2, hb2, by rw [hb]; exact Bool.false_ne_true⟩ hn
          · exact hsub u hb
        obtain ⟨u, h1, h2, h3⟩ := hex
        have := cnt_lt hsub rel.length u h1 h2 h3
        show i + 1 + 1 ≤ cnt (seeK rel (seeN rel s i) rel.length) rel.length
        omega
theorem seeN_has (rel : List Nat) {s w : Nat} (hw : s.testBit w = true) : ∀ i, (seeN rel s i).testBit w = true
  | 0 => hw
  | i + 1 => seeK_sub _ _ _ _ (seeN_has rel hw i)
theorem seeN_least {rel : List Nat} {s : Nat} {T : Nat → Prop} (hc : ∀ u v, T u → (rel.getD u 0).testBit v = true → T v) (hs : ∀ u, s.testBit u = true → T u) : ∀ i u, (seeN rel s i).testBit u = true → T u
  | 0, u, h => hs u h
  | i + 1, u, h => seeK_least hc (seeN_least hc hs i) _ u h
theorem shl_self (w : Nat) : (1 <<< w : Nat).testBit w = true := by rw [shl_test]; simp
theorem shl_lt {w n : Nat} (h : w < n) : (1 <<< w : Nat) < 2 ^ n := lt_of_bits fun u hu => by
  rw [shl_test, decide_eq_true_iff] at hu
  omega
/-- Behind as many rounds as there are worlds. -/
theorem seen_of {rel : List Nat} (hr : FrOk rel) {w : Nat} (hw : w < rel.length) : Seen rel w (seeN rel (1 <<< w) rel.length) := by
  have hs := shl_lt hw
  refine ⟨seeN_has rel (shl_self w) _, seeN_lt hr hs _, fixed_closed (seeN_lt hr hs _) ?_, fun T hT hc u hu => seeN_least hc (fun v hv => ?_) _ u hu⟩
  · rcases seeN_fixed hr hs (shl_self w) rel.length with h | h
    · exact h
    · have := cnt_le (seeN rel (1 <<< w) rel.length) rel.length
      omega
  · rw [shl_test, decide_eq_true_iff] at hv
    subst hv; exact hT
/-- The worlds of a part, in their order. -/
def oldK (s w : Nat) : Nat → List Nat
  | 0 => [w]
  | k + 1 => if k ≠ w ∧ s.testBit k = true then oldK s w k ++ [k] else oldK s w k
theorem oldK_len (s w : Nat) : ∀ k, (oldK s w k).length ≤ if w < k then k else k + 1
  | 0 => by simp [oldK]
  | k + 1 => by
    have ih := oldK_len s w k
    unfold oldK
    split
    · rename_i h
      rw [List.length_append, List.length_singleton]
      split at ih <;> split <;> omega
    · split at ih <;> split <;> omega
theorem oldK_pos (s w : Nat) : ∀ k, 1 ≤ (oldK s w k).length
  | 0 => by simp [oldK]
  | k + 1 => by
    have ih := oldK_pos s w k
    unfold oldK
    split
    · rw [List.length_append]; omega
    · exact ih
theorem oldK_first (s w : Nat) : ∀ k, (oldK s w k)[0]? = some w
  | 0 => rfl
  | k + 1 => by
    have ih := oldK_first s w k
    unfold oldK
    split
    · rw [List.getElem?_append_left (by have := oldK_pos s w k; omega)]; exact ih
    · exact ih
theorem oldK_mem (s w u : Nat) : ∀ k, u ∈ oldK s w k ↔ u = w ∨ (u < k ∧ s.testBit u = true)
  | 0 => by simp [oldK]
  | k + 1 => by
    have ih := oldK_mem s w u k
    unfold oldK
    split
    · rename_i h
      rw [List.mem_append, List.mem_singleton, ih]
      constructor
      · rintro ((h1 | h1) | h1)
        · exact .inl h1
        · exact .inr ⟨by omega, h1.2⟩
        · subst h1; exact .inr ⟨by omega, h.2⟩
      · rintro (h1 | ⟨h1, h2⟩)
        · exact .inl (.inl h1)
        · by_cases e : u = k
          · exact .inr e
          · exact .inl (.inr ⟨by omega, h2⟩)
    · rename_i h
      rw [ih]
      constructor
      · rintro (h1 | h1)
        · exact .inl h1
        · exact .inr ⟨by omega, h1.2⟩
      · rintro (h1 | ⟨h1, h2⟩)
        · exact .inl h1
        · by_cases e : u = k
          · subst e
            by_cases e2 : u = w
            · exact .inl e2
            · exact absurd ⟨e2, h2⟩ h
          · exact .inr ⟨by omega, h2⟩
theorem oldK_nodup (s w : Nat) : ∀ k, (oldK s w k).Nodup
  | 0 => by simp [oldK]
  | k + 1 => by
    have ih := oldK_nodup s w k
    unfold oldK
    split
    · rename_i h
      rw [List.nodup_append]
      refine ⟨ih, by simp, fun a ha b hb e => ?_⟩
      rw [List.mem_singleton] at hb
      rw [oldK_mem] at ha
      rcases ha with h1 | h1
      · exact h.1 (by omega)
      · omega
    · exact ih
/-- The worlds of the part from w. -/
structure PartOk (rel : List Nat) (w : Nat) (old : List Nat) : Prop where
  inj : ∀ i j, i < old.length → j < old.length → old.getD i 0 = old.getD j 0 → i = j
  first : old.getD 0 0 = w
  pos : 1 ≤ old.length
  len : old.length ≤ rel.length
  lt : ∀ i, i < old.length → old.getD i 0 < rel.length
  closed : ∀ i u, i < old.length → (rel.getD (old.getD i 0) 0).testBit u = true → ∃ j, j < old.length ∧ old.getD j 0 = u
  least : ∀ T : Nat → Prop, T w → (∀ u v, T u → (rel.getD u 0).testBit v = true → T v) → ∀ i, i < old.length → T (old.getD i 0)
theorem getD_mem {l : List Nat} {i : Nat} (h : i < l.length) : l.getD i 0 ∈ l := by
  rw [List.getD_eq_getElem?_getD, List.getElem?_eq_getElem h]
  exact List.getElem_mem h
theorem mem_getD {l : List Nat} {u : Nat} (h : u ∈ l) : ∃ j, j < l.length ∧ l.getD j 0 = u := by
  obtain ⟨j, hj⟩ := List.mem_iff_getElem?.1 h
  have hl := (List.getElem?_eq_some_iff.1 hj).1
  exact ⟨j, hl, by rw [List.getD_eq_getElem?_getD, hj]; rfl⟩
/-- The worlds of a part. -/
def oldS (rel : List Nat) (w : Nat) : List Nat := oldK (seeN rel (1 <<< w) rel.length) w rel.length
theorem part_ok {rel : List Nat} (hr : FrOk rel) {w : Nat} (hw : w < rel.length) : PartOk rel w (oldS rel w) := by
  have hs := seen_of hr hw
  have hm : ∀ i, i < (oldS rel w).length → (seeN rel (1 <<< w) rel.length).testBit ((oldS rel w).getD i 0) = true := fun i hi => by
    rcases (oldK_mem _ _ _ _).1 (getD_mem hi) with h | h
    · have := hs.has
      unfold oldS at *
      rw [h]; exact this
    · exact h.2
  refine ⟨fun i j hi hj e => ?_, ?_, oldK_pos _ _ _, ?_, fun i hi => bits_lt hs.lt (hm i hi), fun i u hi hu => ?_, fun T hT hc i hi => hs.least T hT hc _ (hm i hi)⟩
  · have hn := oldK_nodup (seeN rel (1 <<< w) rel.length) w rel.length
    have h2 : (oldS rel w)[i]? = (oldS rel w)[j]? := by
      rw [List.getElem?_eq_getElem hi, List.getElem?_eq_getElem hj]
      rw [List.getD_eq_getElem?_getD, List.getD_eq_getElem?_getD, List.getElem?_eq_getElem hi, List.getElem?_eq_getElem hj] at e
      simpa using e
    exact (List.getElem?_inj hi hn).1 h2
  · rw [List.getD_eq_getElem?_getD]
    unfold oldS
    rw [oldK_first]; rfl
  · have := oldK_len (seeN rel (1 <<< w) rel.length) w rel.length
    rw [if_pos hw] at this
    exact this
  · have h1 := hs.closed _ u (hm i hi) hu
    exact mem_getD ((oldK_mem _ _ _ _).2 (.inr ⟨bits_lt hs.lt h1, h1⟩))
/-- A mask of the old worlds in the part. -/
def movS (old : List Nat) (m : Nat) : Nat := maskN old.length fun i => m.testBit (old.getD i 0)
theorem movS_test (old : List Nat) (m i : Nat) : (movS old m).testBit i = (decide (i < old.length) && m.testBit (old.getD i 0)) := maskN_test _ _ _
theorem movS_in {old : List Nat} {m i : Nat} (h : i < old.length) : (movS old m).testBit i = m.testBit (old.getD i 0) := by
  rw [movS_test, decide_eq_true h, Bool.true_and]
theorem movS_lt (old : List Nat) (m : Nat) : movS old m < 2 ^ old.length := maskN_lt _ _
/-- The relation of a part. -/
def relS (rel old : List Nat) : List Nat := old.map fun u => movS old (rel.getD u 0)
theorem relS_len (rel old : List Nat) : (relS rel old).length = old.length := by simp [relS]
theorem relS_get {rel old : List Nat} {i : Nat} (h : i < old.length) : (relS rel old).getD i 0 = movS old (rel.getD (old.getD i 0) 0) := by
  unfold relS
  rw [List.getD_eq_getElem?_getD, List.getElem?_map, List.getElem?_eq_getElem h, List.getD_eq_getElem?_getD (l := old), List.getElem?_eq_getElem h]
  rfl
theorem relS_ok {rel old : List Nat} {w : Nat} (hr : FrOk rel) (h : PartOk rel w old) : FrOk (relS rel old) := by
  refine ⟨by rw [relS_len]; have := h.len; have := hr.len; omega, fun i s hs => ?_⟩
  rw [relS_len]
  unfold relS at hs
  rw [List.getElem?_map] at hs
  obtain ⟨u, _, rfl⟩ := Option.map_eq_some_iff.1 hs
  exact movS_lt _ _
theorem relS_see {rel old : List Nat} {i j : Nat} (h : i < old.length) : ((relS rel old).getD i 0).testBit j = (decide (j < old.length) && (rel.getD (old.getD i 0) 0).testBit (old.getD j 0)) := by
  rw [relS_get h, movS_test]
/-- A mask of the part tells what a mask tells. -/
def Sim (old : List Nat) (a' a : Nat) : Prop := ∀ i, i < old.length → a'.testBit i = a.testBit (old.getD i 0)
theorem reach_sim {force : Bool} {rel old : List Nat} {w : Nat} (hr : FrOk rel) (h : PartOk rel w old) {i : Nat} (hi : i < old.length) {P' P : Nat → Prop} (hP : ∀ j, j < old.length → (P' j ↔ P (old.getD j 0))) :
    (∀ u, (reachB force (relS rel old) i).testBit u = true → P' u) ↔ ∀ u, (reachB force rel (old.getD i 0)).testBit u = true → P u := by
  unfold reachB
  cases force
  · simp only [Bool.false_eq_true, if_false]
    constructor
    · intro h1 u hu
      rw [shl_test, decide_eq_true_iff] at hu
      subst hu
      exact (hP i hi).1 (h1 i (shl_self i))
    · intro h1 u hu
      rw [shl_test, decide_eq_true_iff] at hu
      subst hu
      exact (hP u hi).2 (h1 _ (shl_self _))
  · simp only [if_true]
    constructor
    · intro h1 u hu
      obtain ⟨j, hj, rfl⟩ := h.closed i u hi hu
      exact (hP j hj).1 (h1 j (by rw [relS_see hi, decide_eq_true hj, hu]; rfl))
    · intro h1 u hu
      rw [relS_see hi, Bool.and_eq_true, decide_eq_true_iff] at hu
      exact (hP u hu.1).2 (h1 _ hu.2)
theorem see_sim {rel old : List Nat} {w : Nat} (hr : FrOk rel) (h : PartOk rel w old) {i : Nat} (hi : i < old.length) {P' P : Nat → Prop} (hP : ∀ j, j < old.length → (P' j ↔ P (old.getD j 0))) :
    (∀ u, ((relS rel old).getD i 0).testBit u = true → P' u) ↔ ∀ u, (rel.getD (old.getD i 0) 0).testBit u = true → P u := reach_sim (force := true) hr h hi hP
/-- The facts of a part. -/
def lookS (old : List Nat) (look : ByteArray → Option Nat) : ByteArray → Option Nat := fun s => (look s).map (movS old)
theorem lookS_ok (old : List Nat) (look : ByteArray → Option Nat) : LookOk old.length (lookS old look) := fun s m h => by
  obtain ⟨x, _, rfl⟩ := Option.map_eq_some_iff.1 h
  exact movS_lt _ _
theorem node_sim {force : Bool} {rel old : List Nat} {look : ByteArray → Option Nat} {w : Nat} (hr : FrOk rel) (h : PartOk rel w old) (op : Nat) (nm : ByteArray) {a' a b' b : Nat} (ha : Sim old a' a) (hb : Sim old b' b)
    (la' : a' < 16) (lb' : b' < 16) (la : a < 16) (lb : b < 16) : Sim old (nodeS force (relS rel old) (lookS old look) op nm a' b') (nodeS force rel look op nm a b) := fun i hi => by
  have hro := relS_ok hr h
  by_cases e1 : op = 1
  · unfold nodeS
    rw [if_pos e1, if_pos e1]
    unfold lookS
    rcases look nm with _ | m
    · simp
    · exact movS_in hi
  · have hw := h.lt i hi
    have hw' : i < (relS rel old).length := by rw [relS_len]; exact hi
    rw [node_test e1, node_test e1, decide_eq_true hw, decide_eq_true hw', Bool.true_and, Bool.true_and]
    by_cases e3 : op = 3
    · subst e3
      exact Bool.eq_iff_iff.2 (holds_not.trans ((reach_sim hr h hi fun j hj => by rw [ha j hj]).trans holds_not.symm))
    by_cases e4 : op = 4
    · subst e4; rw [holds_and, holds_and, ha i hi, hb i hi]
    by_cases e5 : op = 5
    · subst e5; rw [holds_or, holds_or, ha i hi, hb i hi]
    by_cases e6 : op = 6
    · subst e6
      exact Bool.eq_iff_iff.2 ((holds_imp hro hw' la' lb').trans ((reach_sim hr h hi fun j hj => by rw [ha j hj, hb j hj]).trans (holds_imp hr hw la lb).symm))
    by_cases e7 : op = 7
    · subst e7
      exact Bool.eq_iff_iff.2 (holds_iff.trans ((reach_sim hr h hi fun j hj => by rw [ha j hj, hb j hj]).trans holds_iff.symm))
    by_cases e10 : op = 10
    · subst e10
      exact Bool.eq_iff_iff.2 ((holds_box hro la').trans ((see_sim hr h hi fun j hj => by rw [ha j hj]).trans (holds_box hr la).symm))
    by_cases e11 : op = 11
    · subst e11
      exact Bool.eq_iff_iff.2 (holds_dia.trans ((not_congr (see_sim hr h hi fun j hj => by rw [ha j hj])).trans holds_dia.symm))
    · have hz : ∀ (f : Bool) (x s p q : Nat), holdsB f op x s p q = false := fun f x s p q => by
        unfold holdsB
        simp only [e3, e4, e5, e6, e7, e10, e11, if_false]
      rw [hz, hz]
theorem sim_zero (old : List Nat) : Sim old 0 0 := fun i _ => by simp
mutual
/-- What is true in the part is what is true at the old worlds. -/
theorem sem_sim {force : Bool} {rel old : List Nat} {look : ByteArray → Option Nat} {w : Nat} (hr : FrOk rel) (h : PartOk rel w old) (hlk : LookOk rel.length look) : ∀ f : Fm, Sim old (semF force (relS rel old) (lookS old look) f) (semF force rel look f)
  | .mk op nm args subs => by
    have hs := semL_sim (force := force) hr h hlk subs
    unfold semF
    exact node_sim hr h op nm hs.1 hs.2.1 hs.2.2.1 hs.2.2.2.1 hs.2.2.2.2.1 hs.2.2.2.2.2
theorem semL_sim {force : Bool} {rel old : List Nat} {look : ByteArray → Option Nat} {w : Nat} (hr : FrOk rel) (h : PartOk rel w old) (hlk : LookOk rel.length look) : ∀ l : List Fm, Sim old (semL force (relS rel old) (lookS old look) l).1 (semL force rel look l).1 ∧ Sim old (semL force (relS rel old) (lookS old look) l).2 (semL force rel look l).2 ∧
      (semL force (relS rel old) (lookS old look) l).1 < 16 ∧ (semL force (relS rel old) (lookS old look) l).2 < 16 ∧ (semL force rel look l).1 < 16 ∧ (semL force rel look l).2 < 16
  | [] => by unfold semL; exact ⟨sim_zero _, sim_zero _, by decide, by decide, by decide, by decide⟩
  | f :: r => by
    have hs := semL_sim (force := force) hr h hlk r
    have hf := sem_sim (force := force) hr h hlk f
    have hro := relS_ok hr h
    have hlo : LookOk (relS rel old).length (lookS old look) := by rw [relS_len]; exact lookS_ok _ _
    unfold semL
    exact ⟨hf, hs.1, semF_16 hro hlo f, hs.2.2.1, semF_16 hr hlk f, hs.2.2.2.2.1⟩
end
theorem maskN_all {n : Nat} {P : Nat → Bool} (h : ∀ i, i < n → P i = true) : maskN n P = 2 ^ n - 1 := by
  apply Nat.eq_of_testBit_eq
  intro i
  rw [maskN_test, Nat.testBit_two_pow_sub_one]
  by_cases e : i < n
  · rw [h i e]; simp
  · simp [e]
theorem movS_self {n m : Nat} (h : m < 2 ^ n) : movS (List.range n) m = m := by
  apply Nat.eq_of_testBit_eq
  intro i
  rw [movS_test, List.length_range]
  by_cases e : i < n
  · rw [decide_eq_true e, Bool.true_and, List.getD_eq_getElem?_getD, List.getElem?_range e]; rfl
  · rw [decide_eq_false e, Bool.false_and]
    rcases hb : m.testBit i with _ | _
    · rfl
    · exact absurd (bits_lt h hb) e
theorem oldK_range {s : Nat} : ∀ k, 1 ≤ k → (∀ i, i < k → s.testBit i = true) → oldK s 0 k = List.range k
  | 0, h, _ => by omega
  | 1, _, _ => by simp [oldK, List.range_succ]
  | k + 2, _, h => by
    have ih := oldK_range (k + 1) (by omega) fun i hi => h i (by omega)
    rw [List.range_succ, ← ih]
    show (if k + 1 ≠ 0 ∧ s.testBit (k + 1) = true then oldK s 0 (k + 1) ++ [k + 1] else oldK s 0 (k + 1)) = _
    rw [if_pos ⟨by omega, h (k + 1) (by omega)⟩]
/-- The part of a part from its world 0 is all of it. -/
theorem part_again {rel old : List Nat} {w : Nat} (hr : FrOk rel) (h : PartOk rel w old) : oldS (relS rel old) 0 = List.range old.length := by
  have hro := relS_ok hr h
  have hl := relS_len rel old
  have hs := seen_of hro (w := 0) (by rw [hl]; exact h.pos)
  unfold oldS
  rw [hl] at hs ⊢
  refine oldK_range _ h.pos fun i hi => ?_
  obtain ⟨j, hj, e, hb⟩ := h.least (fun u => ∃ i, i < old.length ∧ old.getD i 0 = u ∧ (seeN (relS rel old) (1 <<< 0) old.length).testBit i = true) ⟨0, h.pos, h.first, hs.has⟩ (fun u v ⟨i, hi, e, hb⟩ hv => by
    subst e
    obtain ⟨j, hj, rfl⟩ := h.closed i v hi hv
    exact ⟨j, hj, rfl, hs.closed i j hb (by rw [relS_see hi, decide_eq_true hj, hv]; rfl)⟩) i hi
  rw [← h.inj j i hj hi e]
  exact hb
theorem relS_range {rel : List Nat} (hr : FrOk rel) : relS rel (List.range rel.length) = rel := by
  apply List.ext_getElem?
  intro i
  unfold relS
  rw [List.getElem?_map]
  by_cases e : i < rel.length
  · rw [List.getElem?_range e, List.getElem?_eq_getElem e]
    show some _ = some _
    have hx : rel[i]? = some rel[i] := List.getElem?_eq_getElem e
    show some (movS (List.range rel.length) (rel.getD i 0)) = _
    rw [getD_get hx, movS_self (hr.lt i _ hx)]
  · rw [List.getElem?_eq_none (by simpa using e), List.getElem?_eq_none (by omega)]; rfl
/-- The part of a frame of forcing is one. -/
theorem part_forc {rel old : List Nat} {w : Nat} (hF : Forc rel) (h : PartOk rel w old) : Forc (relS rel old) := by
  have hl := relS_len rel old
  refine ⟨relS_ok hF.ok h, fun i hi => ?_, fun i j k hj hk => ?_⟩
  · rw [hl] at hi
    rw [relS_see hi, decide_eq_true hi, hF.refl _ (h.lt i hi)]; rfl
  · have hi : i < old.length := by have := ((relS_ok hF.ok h).see hj).1; rw [hl] at this; exact this
    have hj2 : j < old.length := by have := ((relS_ok hF.ok h).see hk).1; rw [hl] at this; exact this
    rw [relS_see hi, Bool.and_eq_true, decide_eq_true_iff] at hj ⊢
    rw [relS_see hj2, Bool.and_eq_true, decide_eq_true_iff] at hk
    exact ⟨hk.1, hF.trans _ _ _ hj.2 hk.2⟩
theorem part_root {rel old : List Nat} {w : Nat} (hF : Forc rel) (h : PartOk rel w old) : (relS rel old).getD 0 0 = 2 ^ old.length - 1 := by
  rw [relS_get h.pos, h.first]
  refine maskN_all fun i hi => ?_
  have hw : w < rel.length := by have := h.lt 0 h.pos; rw [h.first] at this; exact this
  exact h.least (fun u => (rel.getD w 0).testBit u = true) (hF.refl w hw) (fun u v hu hv => hF.trans w u v hu hv) i hi
theorem part_up {rel old : List Nat} {w m : Nat} (hr : FrOk rel) (h : PartOk rel w old) (hm : UpM rel m) : UpM (relS rel old) (movS old m) := fun i j hi hj => by
  rw [movS_test, Bool.and_eq_true, decide_eq_true_iff] at hi
  rw [relS_see hi.1, Bool.and_eq_true, decide_eq_true_iff] at hj
  rw [movS_in hj.1]
  exact hm _ _ hi.2 hj.2
theorem look3_mov (old : List Nat) (a b c : Nat) : lookS old (look3 a b c) = look3 (movS old a) (movS old b) (movS old c) := by
  funext s
  unfold lookS look3
  split
  · rfl
  · split
    · rfl
    · split <;> rfl
end Go.FR
namespace Go.Proofs.YtflmllablfjfeaaDoor
open Go.RowKit Go.HK Go.FR
set_option linter.unusedVariables false
set_option linter.unusedSimpArgs false
set_option linter.unusedSectionVars false
theorem antiR_of {rel : List Nat} {w : Nat} : ∀ {k : Nat}, (∀ i, i < k → ((rel.getD w 0).testBit i && (rel.getD i 0).testBit w) = false) → antiR rel w k = true
  | 0, _ => rfl
  | k + 1, h => by unfold antiR; rw [antiR_of fun i hi => h i (by omega), h k (by omega)]; rfl
theorem antiK_of {rel : List Nat} : ∀ {k : Nat}, (∀ w i, w < k → i < w → ((rel.getD w 0).testBit i && (rel.getD i 0).testBit w) = false) → antiK rel k = true
  | 0, _ => rfl
  | k + 1, h => by unfold antiK; rw [antiK_of fun w i hw hi => h w i (by omega) hi, antiR_of fun i hi => h k i (by omega) hi]; rfl
theorem antiK_two {rel : List Nat} {k w i : Nat} (h : antiK rel k = true) (hw : w < k) (hi : i < k) (hne : w ≠ i) : ((rel.getD w 0).testBit i && (rel.getD i 0).testBit w) = false := by
  rcases Nat.lt_or_gt_of_ne hne with h1 | h1
  · rw [Bool.and_comm]; exact antiR_get (antiK_get h hi) h1
  · exact antiR_get (antiK_get h hw) h1
theorem part_suits {rel old : List Nat} {w n : Nat} (hF : Forc rel) (h : PartOk rel w old) (hn : rel.length = n) (h1 : 1 ≤ n) (hs : suitsB true 0 rel (n - 1) = true) : suitsB true 0 (relS rel old) (old.length - 1) = true := by
  have hl := relS_len rel old
  have hp := h.pos
  have hFp := part_forc hF h
  unfold suitsB at hs ⊢
  rw [if_pos rfl] at hs ⊢
  rw [show n - 1 + 1 = n by omega] at hs
  rw [show old.length - 1 + 1 = old.length by omega]
  simp only [Bool.and_eq_true, decide_eq_true_iff] at hs ⊢
  refine ⟨⟨by rw [hl]; exact part_root hF h, antiK_of fun a b ha hb => ?_⟩, ?_⟩
  · have hb2 : b < old.length := by omega
    rw [relS_see ha, relS_see hb2, decide_eq_true ha, decide_eq_true hb2, Bool.true_and, Bool.true_and]
    have hla := h.lt a ha
    have hlb := h.lt b hb2
    exact antiK_two hs.1.2 (by omega) (by omega) fun e => by have := h.inj a b ha hb2 e; omega
  · have := (lackAll_iff (c := 0 ||| 3) hFp.ok).2 fun i hi => ⟨fun _ => hFp.refl i hi, fun _ u v hu hv => hFp.trans i u v hu hv, fun hc => by cases hc⟩
    rw [hl] at this
    exact this
/-- The part of a model is a frame. -/
theorem part_mdl {kind n w : Nat} {rel old : List Nat} {a b c : Nat} (hk : kind = 3 ∨ kind = 4) (hr : FrOk rel) (h : PartOk rel w old) (hn : rel.length = n) (h1 : 1 ≤ n) (hs : suitsB (decide (kind = 3)) 0 rel (n - 1) = true) (hf : kind = 3 → Forc rel ∧ UpM rel a ∧ UpM rel b ∧ UpM rel c) :
    (mdl kind old.length (relS rel old) [movS old a, movS old b, movS old c]).ok = true := by
  have hl := relS_len rel old
  have h4 : old.length ≤ 4 := by have := h.len; have := hr.len; omega
  refine mdl_ok hk (relS_ok hr h) hl h.pos ?_ fun m hm => ?_
  · rcases hk with rfl | rfl
    · exact part_suits (hf rfl).1 h hn h1 hs
    · show suitsB false 0 _ _ = true
      unfold suitsB
      rw [if_neg Bool.false_ne_true]
      exact lackAll_zero _ _
  · rw [hl]
    refine ⟨by rcases hm with rfl | rfl | rfl <;> exact movS_lt _ _, fun hd => ?_⟩
    have hd : kind = 3 := by simpa using hd
    obtain ⟨hF, ua, ub, uc⟩ := hf hd
    have hm16 : m < 16 := by
      have hp := pow_le4 h4
      have : m < 2 ^ old.length := by rcases hm with rfl | rfl | rfl <;> exact movS_lt _ _
      omega
    refine persK_of (relS_ok hr h) hm16 ?_ _
    rcases hm with rfl | rfl | rfl
    · exact part_up hr h ua
    · exact part_up hr h ub
    · exact part_up hr h uc
/-- What is true at 0 in the part. -/
theorem part_sem {force : Bool} {w : Nat} {rel old : List Nat} {a b c : Nat} (hr : FrOk rel) (h : PartOk rel w old) (ha : a < 2 ^ rel.length) (hb : b < 2 ^ rel.length) (hc : c < 2 ^ rel.length) (f : Fm) :
    (semF force (relS rel old) (look3 (movS old a) (movS old b) (movS old c)) f).testBit 0 = (semF force rel (look3 a b c) f).testBit w := by
  have hlk : LookOk rel.length (look3 a b c) := look3_all (R := fun m => m < 2 ^ rel.length) ha hb hc
  have := sem_sim (force := force) hr h hlk f 0 h.pos
  rw [look3_mov, h.first] at this
  exact this
end Go.Proofs.YtflmllablfjfeaaDoor
namespace Go.Proofs.YtflmllablfjfeaaDoor
open Go.RowKit Go.HK Go.FR
set_option linter.unusedVariables false
set_option linter.unusedSimpArgs false
set_option linter.unusedSectionVars false
theorem maskN_succ (n : Nat) (P : Nat → Bool) : maskN (n + 1) P = if P n = true then maskN n P ||| 1 <<< n else maskN n P := rfl
set_option maxRecDepth 100000 in
set_option maxHeartbeats 1000000 in
theorem moved_call (w : World) (B g n c : Nat) (old : List Nat) (hb : w.heap[B]? = some (.cells #[.slice (some ⟨g, 0, none⟩) n c] 25 (0, 0))) (hR : IsR w g 0 old) (hn : old.length = n) (h4 : n ≤ 4) (hlt : ∀ k, k < n → old.getD k 0 < 4) (m : Nat) (hm : m < 16) :
    Calls Tryd.prog 51 #[.int .i64 (m : Int), .pointer (some ⟨B, 0, none⟩)] w fun e w' => e = .returned (.int .i64 (movS old m : Nat)) ∧ w' = w := by
  have HN := Lib.hid hn
  have HR := Lib.hid hR
  have HLT := Lib.hid hlt
  have c0 := HK.blk_cell hb 0
  obtain ⟨P, hP⟩ : ∃ P : Nat → Bool, P = fun j => m.testBit (old.getD j 0) := ⟨_, rfl⟩
  have HP : Hid (∀ j, P j = m.testBit (old.getD j 0)) := Lib.hid fun j => by rw [hP]
  have hms : movS old m = maskN n P := by unfold movS; rw [hn, hP]
  rw [hms]
  clear hR hn hlt hb hms hP
  go_enter Tryd.func51, Tryd.ntmps51
  go_wp2_with (fail)
  go_loopw [4, 9] (fun v i wr => ∃ k : Nat, k ≤ n ∧ i = .int .i64 k ∧ v = .int .i64 ((maskN k P : Nat) : Int) ∧ wr = w) (fun _ i _ => n - (intOf i).toNat)
  case atStart => exact ⟨0, by omega, rfl, rfl, rfl⟩
  case round =>
    obtain ⟨k, hk, rfl, rfl, rfl⟩ := hrel
    by_cases hkn : (k : Int) < (n : Int)
    · have b0 : (0 : Int) ≤ (k : Int) := by omega
      obtain ⟨x, hx⟩ : ∃ x, old[k]? = some x := ⟨_, List.getElem?_eq_getElem (by have := HN.out; omega)⟩
      have hc := HR.out k x hx
      rw [Nat.zero_add] at hc
      have hgx : old.getD k 0 = x := getD_get hx
      have hx4 : x < 4 := by rw [← hgx]; exact HLT.out k (by omega)
      have b1 : (0 : Int) ≤ (x : Int) := by omega
      have ht16 : maskN k P < 16 := Nat.lt_of_lt_of_le (maskN_lt P k) (pow_le4 (by omega))
      have h1k := one_shl_lt (w := k) (by omega)
      have f2 := bits_or (maskN k P) (1 <<< k) (by omega) (by omega)
      have f4 := bits_or (maskN k P) 0 (by omega) (by omega)
      rw [Nat.or_zero, show ((0 : Nat) : Int) = 0 from rfl] at f4
      have f3 := shl_wrap (k := k) (by omega)
      obtain ⟨y, hy⟩ : ∃ y : Nat, y = 1 <<< k := ⟨_, rfl⟩
      rw [← hy] at f2 f3
      have HY := Lib.hid hy
      clear hy h1k
      have hPk := HP.out k
      rw [hgx] at hPk
      rcases e : m.testBit x with _ | _
      · have f1 := bit0 (by omega) e
        have hp2 : Hid (maskN (k + 1) P = maskN k P) := Lib.hid (by rw [maskN_succ, hPk, e]; rfl)
        clear f2 hx hgx hPk
        go_wp2_with (fail)
        go_roundw
        case rel => exact ⟨k + 1, by omega, by go_num, by rw [hp2.out], trivial⟩
        case measure => simp [intOf]; omega
      · have f1 := bit1 (by omega) e
        have hp2 : Hid (maskN (k + 1) P = maskN k P ||| y) := Lib.hid (by rw [maskN_succ, hPk, e, HY.out]; rfl)
        clear hx hgx hPk f4
        go_wp2_with (fail)
        go_roundw
        case rel => exact ⟨k + 1, by omega, by go_num, by rw [hp2.out], trivial⟩
        case measure => simp [intOf]; omega
    · obtain rfl : k = n := by omega
      go_wp2_with (fail)
      go_ret
      exact ⟨rfl, rfl⟩
end Go.Proofs.YtflmllablfjfeaaDoor
namespace Go.Proofs.YtflmllablfjfeaaDoor
open Go.RowKit Go.HK Go.FR
set_option linter.unusedVariables false
set_option linter.unusedSimpArgs false
set_option linter.unusedSectionVars false
theorem results_row_tmp {P : Program} {fn : Func} {p u : Tmp} {ty : TypeId} (h : fn.results = #[.cell p ty, .tmp u]) (tmps : Array Value) (w : World) (g : Nat) (t : TypeId) (cs : Array Value) (fr : Nat × Nat) (d : TypeDesc) (b : Value)
    (hp : tmps.getD p undef = .pointer (some ⟨g, 0, none⟩)) (hb : tmps.getD u undef = b) (hg : w.heap[g]? = some (.cells cs t fr))
    (hu : P.underlying ty = some d) (hd : (match d with | .struct _ | .array _ _ => true | _ => false) = true) (hi : (P.info? ty).map (·.size) = some cs.size) :
    (results fn tmps).run P w = .ok (.tuple #[.agg cs, b]) w := by
  rw [results_cell_tmp h, hp, hb]
  simp [asAddr, run_loadVar_row w g t ty cs fr d hg hu hd hi, Result.andThen]
theorem one_row (w : World) (b : Nat) (hb : b ≤ w.heap.size) (v : Value) : (w.alloc (.cells #[v] 3)).ownsRow b 3 1 (.slice (some ⟨w.heap.size, 0, none⟩) 1 1) 1 [v] :=
  ⟨by simp, .inr ⟨w.heap.size, 1, #[v], rfl, hb, HK.blk_new _ _, Nat.le_refl _, by simp [maxLen], by simp, by simp⟩⟩
/-- The cells of facts. -/
def fcsF : List (ByteArray × Int × Int) → List Value
  | [] => []
  | f :: r => [.string f.1, .int .i64 f.2.1, .int .i64 f.2.2] ++ fcsF r
theorem fcsF_append : ∀ a b, fcsF (a ++ b) = fcsF a ++ fcsF b
  | [], b => rfl
  | x :: a, b => by simp only [List.cons_append, fcsF, fcsF_append a b, List.append_assoc]
theorem fcsF_len : ∀ a, (fcsF a).length = a.length * 3
  | [] => rfl
  | x :: a => by simp only [fcsF, List.length_append, fcsF_len a, List.length_cons, List.length_nil]; omega
/-- The facts of a part. -/
def movF (old : List Nat) (fs : List (ByteArray × Int × Int)) : List (ByteArray × Int × Int) := fs.map fun f => (f.1, 0, (movS old f.2.2.toNat : Int))
theorem movF_take {old : List Nat} {fs : List (ByteArray × Int × Int)} {k : Nat} {f : ByteArray × Int × Int} (h : fs[k]? = some f) : movF old (fs.take (k + 1)) = movF old (fs.take k) ++ [(f.1, 0, (movS old f.2.2.toNat : Int))] := by
  rw [take_one h]; simp [movF]
theorem relS_take {rel old : List Nat} {k u : Nat} (h : old[k]? = some u) : (old.take (k + 1)).map (fun u => movS old (rel.getD u 0)) = (old.take k).map (fun u => movS old (rel.getD u 0)) ++ [movS old (rel.getD u 0)] := by
  rw [take_one h]; simp
/-- What Part answers. -/
def RetPa (w : World) (kind : Nat) (rel old : List Nat) (facts : List (ByteArray × Int × Int)) (e : Ending) (w' : World) : Prop :=
  ∃ (g c : Nat) (f0 : Option Addr) (fc : Nat), e = .returned (.tuple #[.agg #[.int .u8 (kind : Int), .int .i64 (old.length : Int), .slice (some ⟨g, 0, none⟩) old.length c, .int .i64 0, .slice f0 facts.length fc, .slice none 0 0, .slice none 0 0], .int .i64 0]) ∧ Below w.heap.size w w' ∧
    w'.ownsRow w.heap.size 3 1 (.slice (some ⟨g, 0, none⟩) old.length c) old.length (ints (relS rel old)) ∧ w'.ownsRow w.heap.size 46 3 (.slice f0 facts.length fc) facts.length (fcsF (movF old facts))
abbrev z7 : Array Value := #[.int .u8 0, .int .i64 0, .slice none 0 0, .int .i64 0, .slice none 0 0, .slice none 0 0, .slice none 0 0]
/-- Part's boxes, ahead of the part's own. -/
structure PtI (w : World) (mv : Array Value) (B : Nat) (old : List Nat) (vo : Value) (wr : World) : Prop where
  hm : wr.heap[w.heap.size]? = some (.cells mv 30 (0, 0))
  hr : wr.heap[w.heap.size + 1]? = some (.cells z7 30 (0, 0))
  hb : wr.heap[B]? = some (.cells #[vo] 25 (0, 0))
  ho : wr.ownsRow w.heap.size 3 1 vo old.length (ints old)
  bl : Below w.heap.size w wr
theorem PtI.alloc {w : World} {mv : Array Value} {B : Nat} {old : List Nat} {vo : Value} {wr : World} (h : PtI w mv B old vo wr) (o : Obj) : PtI w mv B old vo (wr.alloc o) :=
  ⟨HK.blk_alloc h.hm o, HK.blk_alloc h.hr o, HK.blk_alloc h.hb o, h.ho.alloc o, h.bl.alloc h.bl.size o⟩
/-- Nothing of it is turned. -/
theorem PtI.frm {w : World} {mv : Array Value} {B : Nat} {old : List Nat} {vo : Value} {wr W : World} {S : Nat → Prop} (h : PtI w mv B old vo wr) (hf : HK.Frm S wr W) (h0 : ¬ S w.heap.size) (h1 : ¬ S (w.heap.size + 1)) (h2 : ¬ S B) (h3 : ∀ g, vo.ownBlock = some g → ¬ S g) (hb : Below w.heap.size w W) : PtI w mv B old vo W :=
  ⟨hf.heap h.hm h0, hf.heap h.hr h1, hf.heap h.hb h2, hf.owns h.ho h3, hb⟩
/-- Part's boxes, the part's own among them. -/
structure PtJ (w : World) (mv : Array Value) (B BP : Nat) (old : List Nat) (vb : Value) (kind : Nat) (vr : Value) (rl : List Nat) (vf : Value) (fl : List (ByteArray × Int × Int)) (wr : World) : Prop where
  i : PtI w mv B old vb wr
  hp : wr.heap[BP]? = some (.cells #[.int .u8 (kind : Int), .int .i64 (old.length : Int), vr, .int .i64 0, vf, .slice none 0 0, .slice none 0 0] 30 (0, 0))
  hv : wr.ownsRow w.heap.size 3 1 vr rl.length (ints rl)
  hw : wr.ownsRow w.heap.size 46 3 vf fl.length (fcsF fl)
  ne : ∀ g, vr.ownBlock = some g → vb.ownBlock ≠ some g
theorem own_blk {w : World} {b e size n : Nat} {v : Value} {xs : List Value} (h : w.ownsRow b e size v n xs) {g : Nat} (hg : v.ownBlock = some g) : ∃ cur, w.heap[g]? = some (.cells cur e (0, 0)) := by
  rcases h.2 with ⟨h0, h1⟩ | ⟨g', cap, cur, rfl, _, hh, _⟩
  · rw [h0] at hg; simp [Value.ownBlock] at hg
  · simp [Value.ownBlock] at hg
    subst hg
    exact ⟨cur, hh⟩
theorem tm_facts {force : Bool} {rel : List Nat} {fs : List (ByteArray × Int × Int)} (h : factsK force rel fs fs.length = true) {i : Nat} {f : ByteArray × Int × Int} (hf : fs[i]? = some f) : f.2.1 = 0 ∧ ∃ m : Nat, f.2.2 = (m : Int) ∧ m < 2 ^ rel.length := by
  have hl := (List.getElem?_eq_some_iff.1 hf).1
  have h2 := factsK_mono (show i + 1 ≤ fs.length by omega) h
  unfold factsK at h2
  rw [Bool.and_eq_true] at h2
  have h3 := h2.2
  unfold factB at h3
  have e : fs.getD i (⟨#[]⟩, 0, 0) = f := by rw [List.getD_eq_getElem?_getD, hf]; rfl
  rw [e] at h3
  simp only [Bool.and_eq_true, decide_eq_true_iff] at h3
  exact ⟨h3.1.2.1.1, f.2.2.toNat, by omega, by omega⟩
set_option maxRecDepth 100000 in
set_option maxHeartbeats 4000000 in
theorem part_yes (w : World) (kind n : Nat) (g o cr : Nat) (hf hu hb : SL) (rel : List Nat) (facts : List (ByteArray × Int × Int)) (wd : Nat)
    (hok : FrOk rel) (hn : rel.length = n) (h1 : 1 ≤ n) (hR : IsR w g o rel) (hF : IsFz (fun k => k < w.heap.size) w hf facts) (hL : hf.n ≤ 1000000000)
    (hfm : ∀ (i : Nat) (f : ByteArray × Int × Int), facts[i]? = some f → f.2.1 = 0 ∧ ∃ m : Nat, f.2.2 = (m : Int) ∧ m < 16) (hw : wd < n)
    (hV : ∀ W, Below w.heap.size w W → Calls Tryd.prog 18 #[.agg #[.int .u8 (kind : Int), .int .i64 (n : Int), .slice (some ⟨g, o, none⟩) n cr, .int .i64 0, hf.v, hu.v, hb.v]] W (RetW W true)) :
    Calls Tryd.prog 30 #[.agg #[.int .u8 (kind : Int), .int .i64 (n : Int), .slice (some ⟨g, o, none⟩) n cr, .int .i64 0, hf.v, hu.v, hb.v], .int .i64 (wd : Int)] w (RetPa w kind rel (oldS rel wd) facts) := by
  have h4 : n ≤ 4 := by have := hok.len; omega
  have hpo := part_ok hok (w := wd) (by omega)
  have HPO := Lib.hid hpo
  clear hpo
  obtain ⟨fa, fn, fc⟩ := hf
  obtain ⟨ua, un, uc⟩ := hu
  obtain ⟨ba, bn, bc⟩ := hb
  simp only [SL.v] at hV ⊢
  have hV3 : ∀ o2 o3, Calls Tryd.prog 18 #[.agg #[.int .u8 (kind : Int), .int .i64 (n : Int), .slice (some ⟨g, o, none⟩) n cr, .int .i64 0, .slice fa fn fc, .slice ua un uc, .slice ba bn bc]] ((w.alloc o2).alloc o3) (RetW ((w.alloc o2).alloc o3) true) := fun o2 o3 => hV _ (((Below.refl _ w).alloc (Nat.le_refl _) o2).alloc (by simp) o3)
  unfold RetW at hV3
  have HV := Lib.hid hV3
  obtain ⟨mv, hmv⟩ : ∃ mv : Array Value, mv = #[.int .u8 (kind : Int), .int .i64 (n : Int), .slice (some ⟨g, o, none⟩) n cr, .int .i64 0, .slice fa fn fc, .slice ua un uc, .slice ba bn bc] := ⟨_, rfl⟩
  have HMV := Lib.hid hmv
  have HFN : Hid (facts.length = fn) := Lib.hid hF.1.symm
  have HFL : Hid (fn ≤ 1000000000) := Lib.hid hL
  have HFM := Lib.hid hfm
  have HF := Lib.hid hF
  have HN := Lib.hid hn
  have HR := Lib.hid hR
  have HOK := Lib.hid hok
  have HFT : Hid (∀ W, Below ((w.alloc (.cells mv 30)).alloc (.cells z7 30)).heap.size ((w.alloc (.cells mv 30)).alloc (.cells z7 30)) W → Below w.heap.size w W ∧ W.heap[w.heap.size]? = some (.cells mv 30 (0, 0)) ∧ W.heap[w.heap.size + 1]? = some (.cells z7 30 (0, 0))) := Lib.hid fun W h => by
    refine ⟨(((Below.refl _ w).alloc (Nat.le_refl _) _).alloc (by simp) _).trans (h.mono (by simp; omega)), (h.block _ (by simp; omega)).trans (HK.blk_alloc (HK.blk_new w _) _), (h.block _ (by simp)).trans ?_⟩
    have := HK.blk_new (w.alloc (.cells mv 30)) (.cells z7 30)
    simpa using this
  have c1 : ¬ (wd : Int) < 0 := by omega
  have c2 : ¬ (n : Int) ≤ (wd : Int) := by omega
  have b0 : (0 : Int) ≤ (wd : Int) := by omega
  have f3 := shl_wrap (k := wd) (by omega)
  obtain ⟨s, hs⟩ : ∃ s : Nat, s = 1 <<< wd := ⟨_, rfl⟩
  rw [← hs] at f3
  have hslt : s < 2 ^ rel.length := by rw [hs]; exact shl_lt (by omega)
  have HSL := Lib.hid hslt
  obtain ⟨S, hS⟩ : ∃ S, S = seeN rel s n := ⟨_, rfl⟩
  have hS16 : S < 16 := by rw [hS]; exact Nat.lt_of_lt_of_le (seeN_lt hok hslt n) (pow_le4 hok.len)
  obtain ⟨old, hold⟩ : ∃ old, old = oldS rel wd := ⟨_, rfl⟩
  have HOLD : Hid (old = oldK S wd n) := Lib.hid (by rw [hold, hS, hs]; unfold oldS; rw [hn])
  rw [← hold] at HPO ⊢
  have HSS := Lib.hid hS
  clear hn hok hR hF hL hfm hV hV3 hslt hs hmv hS hold h1
  go_enter Tryd.func30, Tryd.ntmps30
  go_upto_region 3 with (go_at_call 18; ((with_reducible refine (HV.out _ _).mono ?_); rintro e w1 ⟨rfl, hB1⟩))
  rw [← HMV.out] at hB1
  obtain ⟨hbw, hm, hr⟩ := HFT.out _ hB1
  have HBW := Lib.hid hbw
  have HM := Lib.hid hm
  have HRR := Lib.hid hr
  have hm' := hm
  rw [HMV.out] at hm'
  have m0 := HK.blk_cell hm'
  have d0 := m0 0
  have d1 := m0 1
  have d2 := m0 2
  have d4 := m0 4
  have HRW := Lib.hid (HR.out.below hbw)
  clear hbw hm hr hm' m0 hB1 HFT HV
  go_wp2_with (fail)
  go_loopw [6, 34] (fun v i wr => ∃ k : Nat, k ≤ n ∧ i = .int .i64 k ∧ v = .int .i64 ((seeN rel s k : Nat) : Int) ∧ wr = w1) (fun _ i _ => n - (intOf i).toNat)
  case atStart => exact ⟨0, by omega, rfl, rfl, rfl⟩
  case round =>
    obtain ⟨k, hk, rfl, rfl, rfl⟩ := hrel
    by_cases hkn : (k : Int) < (n : Int)
    · obtain ⟨s2, hs2⟩ : ∃ s2, s2 = seeN rel s k := ⟨_, rfl⟩
      have hs3 : s2 < 2 ^ rel.length := by rw [hs2]; exact seeN_lt HOK.out HSL.out k
      have HNX : Hid (seeN rel s (k + 1) = seeK rel s2 n) := Lib.hid (by rw [hs2, ← HN.out]; rfl)
      have HS3 := Lib.hid hs3
      rw [← hs2]
      clear hs2 hs3
      go_wp2_with (fail)
      go_loopw [6, 39] (fun v i wr' => ∃ j : Nat, j ≤ n ∧ i = .int .i64 j ∧ v = .int .i64 ((seeK rel s2 j : Nat) : Int) ∧ wr' = wr) (fun _ i _ => n - (intOf i).toNat)
      case atStart => exact ⟨0, by omega, rfl, rfl, rfl⟩
      case round =>
        obtain ⟨j, hj, rfl, rfl, rfl⟩ := hrel
        by_cases hjn : (j : Int) < (n : Int)
        · have b1 : (0 : Int) ≤ (j : Int) := by omega
          obtain ⟨x, hx⟩ : ∃ x, rel[j]? = some x := ⟨_, List.getElem?_eq_getElem (by have := HN.out; omega)⟩
          have hc := HRW.out j x hx
          have hgx := getD_get hx
          have hx16 : x < 16 := by rw [← hgx]; exact HOK.out.get j
          have ht16 : seeK rel s2 j < 16 := Nat.lt_of_lt_of_le (seeK_lt HOK.out HS3.out j (by rw [HN.out]; omega)) (pow_le4 HOK.out.len)
          have f2 := bits_or (seeK rel s2 j) x (by omega) (by omega)
          rcases e : (seeK rel s2 j).testBit j with _ | _
          · have f1 := bit0 (by omega) e
            have hp2 : Hid (seeK rel s2 (j + 1) = seeK rel s2 j) := Lib.hid (by show (if _ then _ else _) = _; rw [e]; rfl)
            clear f2 hx hgx
            go_wp2_with (fail)
            go_roundw
            case rel => exact ⟨j + 1, by omega, by go_num, by rw [hp2.out], trivial⟩
            case measure => simp [intOf]; omega
          · have f1 := bit1 (by omega) e
            have hp2 : Hid (seeK rel s2 (j + 1) = seeK rel s2 j ||| x) := Lib.hid (by show (if _ then _ else _) = _; rw [e, hgx]; rfl)
            clear hx hgx
            go_wp2_with (fail)
            go_roundw
            case rel => exact ⟨j + 1, by omega, by go_num, by rw [hp2.out], trivial⟩
            case measure => simp [intOf]; omega
        · obtain rfl : j = n := by omega
          go_wp2_with (fail)
          go_roundw
          case rel => exact ⟨k + 1, by omega, by go_num, by rw [HNX.out], trivial⟩
          case measure => simp [intOf]; omega
    · obtain rfl : k = n := by omega
      rw [← HSS.out]
      have HB2 : Hid (PtI w mv (wr.heap.size + 1) (oldK S wd 0) (.slice (some ⟨wr.heap.size, 0, none⟩) 1 1) ((wr.alloc (.cells #[.int .i64 (wd : Int)] 3)).alloc (.cells #[.slice (some ⟨wr.heap.size, 0, none⟩) 1 1] 25))) := Lib.hid (by
        refine ⟨HK.blk_alloc (HK.blk_alloc HM.out _) _, HK.blk_alloc (HK.blk_alloc HRR.out _) _, ?_, (one_row wr _ HBW.out.size _).alloc _, (HBW.out.alloc HBW.out.size _).alloc (by have := HBW.out.size; simp; omega) _⟩
        have := HK.blk_new (wr.alloc (.cells #[.int .i64 (wd : Int)] 3)) (.cells #[.slice (some ⟨wr.heap.size, 0, none⟩) 1 1] 25)
        simpa using this)
      have HBB : Hid (w.heap.size + 2 ≤ wr.heap.size + 1) := Lib.hid (by have := HK.blk_lt HRR.out; omega)
      obtain ⟨B, hB⟩ : ∃ B, B = wr.heap.size + 1 := ⟨_, rfl⟩
      rw [← hB] at HB2 HBB
      have HBE := Lib.hid hB
      clear hB
      clear d0 d1 d2 d4 f3
      go_upto_region 16 with (fail)
      rw [← HBE.out]
      obtain ⟨w2, hw2⟩ : ∃ w2 : World, w2 = (wr.alloc (.cells #[.int .i64 (wd : Int)] 3)).alloc (.cells #[.slice (some ⟨wr.heap.size, 0, none⟩) 1 1] 25) := ⟨_, rfl⟩
      rw [← hw2] at HB2 ⊢
      clear hw2
      have hm' := HB2.out.hm
      rw [HMV.out] at hm'
      have d1 := HK.blk_cell hm' 1
      clear hm' HRW HM HRR HBW
      go_wp2_with (fail)
      clear d1
      go_loopw [58] (fun i wr => ∃ (j : Nat) (vo : Value), j ≤ k ∧ i = .int .i64 j ∧ PtI w mv B (oldK S wd j) vo wr) (fun i _ => k - (intOf i).toNat)
      case atStart => exact ⟨0, _, by omega, rfl, HB2.out⟩
      case round =>
        obtain ⟨j, vo, hj, rfl, hI⟩ := hrel
        have HI := Lib.hid hI
        have hm' := hI.hm
        rw [HMV.out] at hm'
        have d0 := HK.blk_cell hm' 0
        have d1 := HK.blk_cell hm' 1
        have d2 := HK.blk_cell hm' 2
        have d4 := HK.blk_cell hm' 4
        have e0 := HK.blk_cell hI.hb 0
        have e1 := HK.blk_frozen hI.hb 0
        clear hm' hI
        by_cases hjn : (j : Int) < (k : Int)
        · have b1 : (0 : Int) ≤ (j : Int) := by omega
          by_cases hcc : j ≠ wd ∧ S.testBit j = true
          · have g1 : ((j : Int) != (wd : Int)) = true := by simp; omega
            have f1 := bit1 (by omega) hcc.2
            have HNX : Hid (oldK S wd (j + 1) = oldK S wd j ++ [j]) := Lib.hid (by show (if _ then _ else _) = _; rw [if_pos hcc])
            have HLE : Hid ((oldK S wd j).length ≤ 5) := Lib.hid (by have := oldK_len S wd j; split at this <;> omega)
            clear hcc
            go_wp2_with (at_builtin
                         refine wpList_app_any rfl elem25 _ _ rfl vo w.heap.size (oldK S wd j).length (ints (oldK S wd j)) rfl (HI.out.ho.alloc _) ⟨wr.heap.size, 0, none⟩ 1 1 [.int .i64 (j : Int)] rfl rfl (fun q u hj => by rw [addr_add0, HK.blk_cell (HK.blk_new _ _), List.getElem?_toArray]; exact hj) (by simp [Value.oneCell']) (by have := HLE.out; simp only [maxLen]; omega) (by have := HLE.out; omega) (by have := HI.out.bl.size; simp; omega) ?_
                         intro v3 w3 hown hgrow hnil hat
                         obtain ⟨g3, c3, rfl, hg3, hl3⟩ := own_form9 hown (by omega)
                         have hA := HI.out.alloc (.cells #[.int .i64 (j : Int)] 3)
                         have hne : some B ≠ vo.ownBlock := fun e => owns_ne_type HI.out.ho HI.out.hb (by intro c h; injection h with _ h _; cases h) e.symm
                         have hb3 := HK.blk_grown hA.hb hgrow hne
                         have HB3 := Lib.hid hb3
                         have HM3 := Lib.hid (HK.blk_grown hA.hm hgrow (fun e => owns_ne_type HI.out.ho HI.out.hm (by intro c h; injection h with _ h _; cases h) e.symm))
                         have HR3 := Lib.hid (HK.blk_grown hA.hr hgrow (fun e => owns_ne_type HI.out.ho HI.out.hr (by intro c h; injection h with _ h _; cases h) e.symm))
                         have HBL := Lib.hid (hA.bl.grown hgrow hA.bl.size (fun m hm => own_ge HI.out.ho m hm))
                         have HOW := Lib.hid hown
                         have t0 := HK.blk_cell hb3 0
                         have t1 := HK.blk_frozen hb3 0
                         clear hb3 hown hgrow hnil hat hA hne hg3 hl3)
            go_roundw
            case rel =>
              have hvB := owns_ne_type HOW.out HB3.out (by intro c h; injection h with _ h _; cases h)
              have hBB := HBB.out
              refine ⟨j + 1, _, by omega, by go_num, HK.blk_set_other HM3.out (p := ⟨B, 0, none⟩) (by show w.heap.size ≠ B; omega) _, HK.blk_set_other HR3.out (p := ⟨B, 0, none⟩) (by show w.heap.size + 1 ≠ B; omega) _, by have := HK.blk_set HB3.out 0 (.slice (some ⟨g3, 0, none⟩) ((oldK S wd j).length + 1) c3); simpa using this, ?_, HBL.out.setCell (p := ⟨B, 0, none⟩) (by show w.heap.size ≤ B; omega) _⟩
              rw [HNX.out, List.length_append, ints_append]
              exact owns_setCell HOW.out (p := ⟨B, 0, none⟩) hvB _
            case measure => simp [intOf]; omega
          · have HNX : Hid (oldK S wd (j + 1) = oldK S wd j) := Lib.hid (by show (if _ then _ else _) = _; rw [if_neg hcc])
            by_cases hjw : j = wd
            · have g1 : ((j : Int) != (wd : Int)) = false := by simp; omega
              clear hcc hjw
              go_wp2_with (fail)
              go_roundw
              case rel => exact ⟨j + 1, vo, by omega, by go_num, by rw [HNX.out]; exact HI.out⟩
              case measure => simp [intOf]; omega
            · have g1 : ((j : Int) != (wd : Int)) = true := by simp; omega
              have hb : S.testBit j = false := by rcases e : S.testBit j with _ | _; rfl; exact absurd ⟨hjw, e⟩ hcc
              have f1 := bit0 (by omega) hb
              clear hcc hjw hb
              go_wp2_with (fail)
              go_roundw
              case rel => exact ⟨j + 1, vo, by omega, by go_num, by rw [HNX.out]; exact HI.out⟩
              case measure => simp [intOf]; omega
        · obtain rfl : j = k := by omega
          rw [← HOLD.out] at HI
          obtain ⟨go, co, rfl, hgo1, hgo2⟩ := own_form9 HI.out.ho HPO.out.pos
          clear hgo1 hgo2
          obtain ⟨ln, hln⟩ : ∃ ln, ln = old.length := ⟨_, rfl⟩
          have HLN := Lib.hid hln
          have hln4 : ln ≤ 4 := by rw [hln]; have := HPO.out.len; have := HOK.out.len; omega
          have HOLT : Hid (∀ k, k < old.length → old.getD k 0 < rel.length) := Lib.hid HPO.out.lt
          clear HSL HSS HB2 HOLD
          rw [← hln] at HI e0
          clear hln
          go_upto_region 24 with (fail)
          have HBP : Hid (w.heap.size + 2 ≤ wr.heap.size ∧ B < wr.heap.size) := Lib.hid ⟨by have := HK.blk_lt HI.out.hr; omega, HK.blk_lt HI.out.hb⟩
          have HJ0 : Hid (PtJ w mv B wr.heap.size old (.slice (some ⟨go, 0, none⟩) ln co) kind (.slice none 0 0) [] (.slice none 0 0) [] (wr.alloc (.cells #[.int .u8 (kind : Int), .int .i64 (ln : Int), .slice none 0 0, .int .i64 0, .slice none 0 0, .slice none 0 0, .slice none 0 0] 30))) := Lib.hid ⟨HI.out.alloc _, by rw [← HLN.out]; exact HK.blk_new _ _, World.ownsRow_nil _ _ _ _, World.ownsRow_nil _ _ _ _, fun g h => by cases h⟩
          obtain ⟨BP, hBP⟩ : ∃ BP, BP = wr.heap.size := ⟨_, rfl⟩
          rw [← hBP] at HBP HJ0 ⊢
          obtain ⟨w4, hw4⟩ : ∃ w4 : World, w4 = wr.alloc (.cells #[.int .u8 (kind : Int), .int .i64 (ln : Int), .slice none 0 0, .int .i64 0, .slice none 0 0, .slice none 0 0, .slice none 0 0] 30) := ⟨_, rfl⟩
          rw [← hw4] at HJ0 ⊢
          clear hw4 hBP HI d0 d1 d2 d4 e0 e1
          have e0 := HK.blk_cell HJ0.out.i.hb 0
          go_wp2_with (fail)
          clear e0
          go_loopw [84] (fun i wr => ∃ (k : Nat) (vo : Value), k ≤ ln ∧ i = .int .i64 k ∧ PtJ w mv B BP old (.slice (some ⟨go, 0, none⟩) ln co) kind vo ((old.take k).map fun u => movS old (rel.getD u 0)) (.slice none 0 0) [] wr) (fun i _ => ln - (intOf i).toNat)
          case atStart => exact ⟨0, _, by omega, rfl, HJ0.out⟩
          case round =>
            obtain ⟨k, vo, hk, rfl, hI⟩ := hrel
            have hlt : ((old.take k).map fun u => movS old (rel.getD u 0)).length = k := by rw [List.length_map, List.length_take, ← HLN.out]; omega
            by_cases hkn : (k : Int) < (ln : Int)
            · have b1 : (0 : Int) ≤ (k : Int) := by omega
              obtain ⟨u, hu⟩ : ∃ u, old[k]? = some u := ⟨_, List.getElem?_eq_getElem (by have := HLN.out; omega)⟩
              have hul : u < j := by have := HOLT.out k (by have := HLN.out; omega); rw [getD_get hu, HN.out] at this; exact this
              obtain ⟨xr, hx⟩ : ∃ xr, rel[u]? = some xr := ⟨_, List.getElem?_eq_getElem (by have := HN.out; omega)⟩
              have hgx := getD_get hx
              have hx16 : xr < 16 := by rw [← hgx]; exact HOK.out.get u
              obtain ⟨xs, hxs⟩ : ∃ xs, xs = (old.take k).map fun u => movS old (rel.getD u 0) := ⟨_, rfl⟩
              obtain ⟨y, hy⟩ : ∃ y, y = movS old xr := ⟨_, rfl⟩
              have HNX : Hid ((old.take (k + 1)).map (fun u => movS old (rel.getD u 0)) = xs ++ [y]) := Lib.hid (by rw [relS_take hu, ← hxs, hgx, hy])
              rw [← hxs] at hI hlt
              have cu : wr.cell? ⟨go, k, none⟩ = some (.int .i64 (u : Int)) := by
                have := isR_own (n := ln) (c := co) (g := go) (b := w.heap.size) (xs := old) (by have := hI.i.ho; rwa [← HLN.out] at this) k u hu
                rwa [Nat.zero_add] at this
              have HUP : Hid (∀ W, HK.Frm (fun j => j = BP ∨ vo.ownBlock = some j) wr W → Below w.heap.size w W → PtI w mv B old (.slice (some ⟨go, 0, none⟩) ln co) W) := Lib.hid fun W h hb => hI.i.frm h (by rintro (e | e); have := HBP.out; omega; exact owns_ne_type hI.hv hI.i.hm (by intro c h; injection h with _ h _; cases h) e) (by rintro (e | e); have := HBP.out; omega; exact owns_ne_type hI.hv hI.i.hr (by intro c h; injection h with _ h _; cases h) e) (by rintro (e | e); have := HBP.out; omega; exact owns_ne_type hI.hv hI.i.hb (by intro c h; injection h with _ h _; cases h) e) (fun g hg => by
                rintro (e | e)
                · subst e; exact owns_ne_type hI.i.ho hI.hp (by intro c h; injection h with _ h _; cases h) hg
                · exact hI.ne g e hg) hb
              have HMV2 : Hid (∀ W, HK.Frm (fun j => j = BP ∨ vo.ownBlock = some j) wr W → Below w.heap.size w W → W.cell? ⟨w.heap.size, 2, none⟩ = some (.slice (some ⟨g, o, none⟩) j cr)) := Lib.hid fun W h hb => by
                have := (HUP.out W h hb).hm
                rw [HMV.out] at this
                exact HK.blk_cell this 2
              have HXC : Hid (∀ W, Below w.heap.size w W → W.cell? ⟨g, o + u, none⟩ = some (.int .i64 (xr : Int))) := Lib.hid fun W hb => (HR.out.below hb) u xr hx
              have HMO : Hid (∀ W, HK.Frm (fun j => j = BP ∨ vo.ownBlock = some j) wr W → Below w.heap.size w W → Calls Tryd.prog 51 #[.int .i64 (xr : Int), .pointer (some ⟨B, 0, none⟩)] W fun e w' => e = .returned (.int .i64 (y : Nat)) ∧ w' = W) := Lib.hid fun W h hb => by
                have hP := HUP.out W h hb
                have := moved_call W B go ln co old hP.hb (isR_own (by have := hP.ho; rwa [← HLN.out] at this)) HLN.out.symm hln4 (fun k hk => by have := HOLT.out k (by rw [← HLN.out]; exact hk); have := HOK.out.len; omega) xr hx16
                rw [← hy] at this
                exact this
              have HMB := Lib.hid hI.hp
              have how := hI.hv
              rw [hlt] at how
              have HOW := Lib.hid how
              have HBW := Lib.hid hI.i.bl
              have HVM : Hid (vo.ownBlock ≠ some BP) := Lib.hid (owns_ne_type hI.hv hI.hp (by intro c h; injection h with _ h _; cases h))
              have HVL := Lib.hid (own_lt9 hI.hv)
              have HVG := Lib.hid (own_ge hI.hv)
              have HVN := Lib.hid hI.ne
              have HML := Lib.hid (HK.blk_lt hI.hp)
              have HMG : Hid (w.heap.size ≤ BP) := Lib.hid (by have := HBP.out; omega)
              have HGO : Hid (go < wr.heap.size) := Lib.hid (own_lt9 hI.i.ho go rfl)
              have HLT := Lib.hid hlt
              have HUL : Hid ((0 : Int) ≤ (u : Int) ∧ (u : Int) < (j : Int)) := Lib.hid (by omega)
              have HK4 : Hid (k ≤ 4) := Lib.hid (by omega)
              have HLE : Hid (old.length = ln) := Lib.hid HLN.out.symm
              rw [HLE.out] at HMB
              clear hI hxs hu hx hgx hy how hlt hul
              go_upto_region 27 with (fail)
              refine Go.RE.wp_region_eachg [88, 89, 90, 91, 92, 93, 94, 95, 96, 97, 98, 99] (fun L x W => (HK.Frm (fun j => j = BP ∨ vo.ownBlock = some j) wr W ∧ (L 12 = false → W.heap[BP]? = some (.cells #[.int .u8 (kind : Int), .int .i64 (ln : Int), vo, .int .i64 0, .slice none 0 0, .slice none 0 0, .slice none 0 0] 30 (0, 0))) ∧ (L 10 = false → W.ownsRow w.heap.size 3 1 vo k (ints xs)) ∧ Below w.heap.size w W) ∧ (L 0 = true → x 88 = .pointer (some ⟨BP, 2, none⟩)) ∧ (L 1 = true → x 89 = vo) ∧ (L 2 = true → x 90 = .func (.func 51) #[] #[.pointer (some ⟨B, 0, none⟩)]) ∧ (L 3 = true → x 91 = .pointer (some ⟨w.heap.size, 2, none⟩)) ∧ (L 4 = true → x 92 = .slice (some ⟨g, o, none⟩) j cr) ∧ (L 5 = true → x 93 = .int .i64 (u : Int)) ∧ (L 6 = true → x 94 = .pointer (some ⟨g, o + u, none⟩)) ∧ (L 7 = true → x 95 = .int .i64 (xr : Int)) ∧ (L 8 = true → x 96 = .int .i64 (y : Nat)) ∧ (L 9 = true → L 8 = true ∧ ∃ Bn, x 97 = .slice (some ⟨Bn, 0, none⟩) 1 1 ∧ Bn ≠ BP ∧ vo.ownBlock ≠ some Bn ∧ Bn < W.heap.size ∧ W.heap[Bn]? = some (.cells #[.int .i64 (y : Int)] 3 (0, 0))) ∧ (L 10 = true → L 9 = true ∧ L 1 = true ∧ ∃ g c, x 98 = .slice (some ⟨g, 0, none⟩) (k + 1) c ∧ W.ownsRow w.heap.size 3 1 (.slice (some ⟨g, 0, none⟩) (k + 1) c) (k + 1) (ints xs ++ [.int .i64 (y : Int)]) ∧ g ≠ BP ∧ go ≠ g) ∧ (L 11 = true → x 99 = .pointer (some ⟨BP, 2, none⟩)) ∧ (L 12 = true → L 10 = true ∧ ∃ g c, x 98 = .slice (some ⟨g, 0, none⟩) (k + 1) c ∧ W.heap[BP]? = some (.cells #[.int .u8 (kind : Int), .int .i64 (ln : Int), .slice (some ⟨g, 0, none⟩) (k + 1) c, .int .i64 0, .slice none 0 0, .slice none 0 0, .slice none 0 0] 30 (0, 0)))) (by kernel_rfl) (by kernel_rfl) (by kernel_rfl) ?_ ((Go.RE.Each.cons ?_ (Go.RE.Each.cons ?_ (Go.RE.Each.cons ?_ (Go.RE.Each.cons ?_ (Go.RE.Each.cons ?_ (Go.RE.Each.cons ?_ (Go.RE.Each.cons ?_ (Go.RE.Each.cons ?_ (Go.RE.Each.cons ?_ (Go.RE.Each.cons ?_ (Go.RE.Each.cons ?_ (Go.RE.Each.cons ?_ (Go.RE.Each.cons ?_ Go.RE.Each.nil)))))))))))))) ?_
              · exact fun x => ⟨⟨HK.Frm.drew (HK.Frm.refl _ _), fun _ => HMB.out, fun _ => HOW.out, bl_dr HBW.out⟩, fun h => (by cases h), fun h => (by cases h), fun h => (by cases h), fun h => (by cases h), fun h => (by cases h), fun h => (by cases h), fun h => (by cases h), fun h => (by cases h), fun h => (by cases h), fun h => (by cases h), fun h => (by cases h), fun h => (by cases h), fun h => (by cases h)⟩
              · intro L x a wR K hL hd hf hx hΦ hK
                obtain ⟨hI, f0, f1, f2, f3, f4, f5, f6, f7, f8, f9, f10, f11, f12⟩ := hΦ
                refine ⟨fun _ => ?_, fun h => absurd h (by rw [Go.RE.wanted_none rfl]; decide)⟩
                have e12 : a.tmps[12]? = some (.pointer (some ⟨BP, 0, none⟩)) := hf 12 (of_decide_eq_true (by kernel_rfl))
                clear hf hx hd
                go_simp
                refine hK _ _ ?_
                exact ⟨hI, fun _ => rfl, fun h => f1 h, fun h => f2 h, fun h => f3 h, fun h => f4 h, fun h => f5 h, fun h => f6 h, fun h => f7 h, fun h => f8 h, fun h => f9 h, fun h => f10 h, fun h => f11 h, fun h => f12 h⟩
              · intro L x a wR K hL hd hf hx hΦ hK
                obtain ⟨hI, f0, f1, f2, f3, f4, f5, f6, f7, f8, f9, f10, f11, f12⟩ := hΦ
                refine ⟨fun _ => ?_, fun h => absurd h (by rw [Go.RE.wanted_none rfl]; decide)⟩
                have d0 := f0 (hd 0 (by kernel_rfl))
                have e88 : a.tmps[88]? = some (x 88) := hx 0 _ 88 rfl rfl (hd 0 (by kernel_rfl))
                rw [d0] at e88
                have hL12 : L 12 = false := by rcases e : L 12 with _ | _; rfl; exact absurd (f10 (f12 e).1).2.1 (by rw [hL]; decide)
                have c := HK.blk_cell (hI.2.1 hL12) 2
                clear hf hx hd
                go_simp
                refine hK _ _ ?_
                exact ⟨hI, fun h => f0 h, fun _ => rfl, fun h => f2 h, fun h => f3 h, fun h => f4 h, fun h => f5 h, fun h => f6 h, fun h => f7 h, fun h => f8 h, fun h => f9 h, fun h => by have hh := f10 h; simp [hL] at hh, fun h => f11 h, fun h => f12 h⟩
              · intro L x a wR K hL hd hf hx hΦ hK
                obtain ⟨hI, f0, f1, f2, f3, f4, f5, f6, f7, f8, f9, f10, f11, f12⟩ := hΦ
                refine ⟨fun _ => ?_, fun h => absurd h (by rw [Go.RE.wanted_none rfl]; decide)⟩
                have e11 : a.tmps[11]? = some (.func (.func 51) #[] #[.pointer (some ⟨B, 0, none⟩)]) := hf 11 (of_decide_eq_true (by kernel_rfl))
                clear hf hx hd
                go_simp
                refine hK _ _ ?_
                exact ⟨hI, fun h => f0 h, fun h => f1 h, fun _ => rfl, fun h => f3 h, fun h => f4 h, fun h => f5 h, fun h => f6 h, fun h => f7 h, fun h => f8 h, fun h => f9 h, fun h => f10 h, fun h => f11 h, fun h => f12 h⟩
              · intro L x a wR K hL hd hf hx hΦ hK
                obtain ⟨hI, f0, f1, f2, f3, f4, f5, f6, f7, f8, f9, f10, f11, f12⟩ := hΦ
                refine ⟨fun _ => ?_, fun h => absurd h (by rw [Go.RE.wanted_none rfl]; decide)⟩
                have e2 : a.tmps[2]? = some (.pointer (some ⟨w.heap.size, 0, none⟩)) := hf 2 (of_decide_eq_true (by kernel_rfl))
                clear hf hx hd
                go_simp
                refine hK _ _ ?_
                exact ⟨hI, fun h => f0 h, fun h => f1 h, fun h => f2 h, fun _ => rfl, fun h => f4 h, fun h => f5 h, fun h => f6 h, fun h => f7 h, fun h => f8 h, fun h => f9 h, fun h => f10 h, fun h => f11 h, fun h => f12 h⟩
              · intro L x a wR K hL hd hf hx hΦ hK
                obtain ⟨hI, f0, f1, f2, f3, f4, f5, f6, f7, f8, f9, f10, f11, f12⟩ := hΦ
                refine ⟨fun _ => ?_, fun h => absurd h (by rw [Go.RE.wanted_none rfl]; decide)⟩
                have d3 := f3 (hd 3 (by kernel_rfl))
                have e91 : a.tmps[91]? = some (x 91) := hx 3 _ 91 rfl rfl (hd 3 (by kernel_rfl))
                rw [d3] at e91
                have c := HMV2.out _ hI.1 hI.2.2.2
                clear hf hx hd
                go_simp
                refine hK _ _ ?_
                exact ⟨hI, fun h => f0 h, fun h => f1 h, fun h => f2 h, fun h => f3 h, fun _ => rfl, fun h => f5 h, fun h => f6 h, fun h => f7 h, fun h => f8 h, fun h => f9 h, fun h => f10 h, fun h => f11 h, fun h => f12 h⟩
              · intro L x a wR K hL hd hf hx hΦ hK
                obtain ⟨hI, f0, f1, f2, f3, f4, f5, f6, f7, f8, f9, f10, f11, f12⟩ := hΦ
                refine ⟨fun _ => ?_, fun h => absurd h (by rw [Go.RE.wanted_none rfl]; decide)⟩
                have e14 : a.tmps[14]? = some (.int .i64 (u : Int)) := hf 14 (of_decide_eq_true (by kernel_rfl))
                clear hf hx hd
                go_simp
                refine hK _ _ ?_
                exact ⟨hI, fun h => f0 h, fun h => f1 h, fun h => f2 h, fun h => f3 h, fun h => f4 h, fun _ => rfl, fun h => f6 h, fun h => f7 h, fun h => f8 h, fun h => f9 h, fun h => f10 h, fun h => f11 h, fun h => f12 h⟩
              · intro L x a wR K hL hd hf hx hΦ hK
                obtain ⟨hI, f0, f1, f2, f3, f4, f5, f6, f7, f8, f9, f10, f11, f12⟩ := hΦ
                refine ⟨fun _ => ?_, fun h => absurd h (by rw [Go.RE.wanted_none rfl]; decide)⟩
                have d4 := f4 (hd 4 (by kernel_rfl))
                have e92 : a.tmps[92]? = some (x 92) := hx 4 _ 92 rfl rfl (hd 4 (by kernel_rfl))
                rw [d4] at e92
                have d5 := f5 (hd 5 (by kernel_rfl))
                have e93 : a.tmps[93]? = some (x 93) := hx 5 _ 93 rfl rfl (hd 5 (by kernel_rfl))
                rw [d5] at e93
                have l1 := HUL.out.1
                have l2 := HUL.out.2
                clear hf hx hd
                go_simp
                refine hK _ _ ?_
                exact ⟨hI, fun h => f0 h, fun h => f1 h, fun h => f2 h, fun h => f3 h, fun h => f4 h, fun h => f5 h, fun _ => rfl, fun h => f7 h, fun h => f8 h, fun h => f9 h, fun h => f10 h, fun h => f11 h, fun h => f12 h⟩
              · intro L x a wR K hL hd hf hx hΦ hK
                obtain ⟨hI, f0, f1, f2, f3, f4, f5, f6, f7, f8, f9, f10, f11, f12⟩ := hΦ
                refine ⟨fun _ => ?_, fun h => absurd h (by rw [Go.RE.wanted_none rfl]; decide)⟩
                have d6 := f6 (hd 6 (by kernel_rfl))
                have e94 : a.tmps[94]? = some (x 94) := hx 6 _ 94 rfl rfl (hd 6 (by kernel_rfl))
                rw [d6] at e94
                have c := HXC.out _ hI.2.2.2
                clear hf hx hd
                go_simp
                refine hK _ _ ?_
                exact ⟨hI, fun h => f0 h, fun h => f1 h, fun h => f2 h, fun h => f3 h, fun h => f4 h, fun h => f5 h, fun h => f6 h, fun _ => rfl, fun h => f8 h, fun h => f9 h, fun h => f10 h, fun h => f11 h, fun h => f12 h⟩
              · intro L x a wR K hL hd hf hx hΦ hK
                obtain ⟨hI, f0, f1, f2, f3, f4, f5, f6, f7, f8, f9, f10, f11, f12⟩ := hΦ
                refine ⟨fun _ => ?_, fun h => absurd h (by rw [Go.RE.wanted_none rfl]; decide)⟩
                have d2 := f2 (hd 2 (by kernel_rfl))
                have e90 : a.tmps[90]? = some (x 90) := hx 2 _ 90 rfl rfl (hd 2 (by kernel_rfl))
                rw [d2] at e90
                have d7 := f7 (hd 7 (by kernel_rfl))
                have e95 : a.tmps[95]? = some (x 95) := hx 7 _ 95 rfl rfl (hd 7 (by kernel_rfl))
                rw [d7] at e95
                clear hf hx hd
                have HC := Lib.hid (HMO.out _ hI.1 hI.2.2.2)
                go_simp
                go_at_call 51
                with_reducible refine HC.out.mono ?_
                rintro e w' ⟨rfl, hw'⟩
                have hw' := hw'.symm
                subst hw'
                simp only
                refine hK _ _ ?_
                exact ⟨hI, fun h => f0 h, fun h => f1 h, fun h => f2 h, fun h => f3 h, fun h => f4 h, fun h => f5 h, fun h => f6 h, fun h => f7 h, fun _ => rfl, fun h => by have hh := f9 h; simp [hL] at hh, fun h => f10 h, fun h => f11 h, fun h => f12 h⟩
              · intro L x a wR K hL hd hf hx hΦ hK
                obtain ⟨hI, f0, f1, f2, f3, f4, f5, f6, f7, f8, f9, f10, f11, f12⟩ := hΦ
                refine ⟨fun _ => ?_, fun h => absurd h (by rw [Go.RE.wanted_none rfl]; decide)⟩
                have d8 := f8 (hd 8 (by kernel_rfl))
                have e96 : a.tmps[96]? = some (x 96) := hx 8 _ 96 rfl rfl (hd 8 (by kernel_rfl))
                rw [d8] at e96
                have l8 := hd 8 (by kernel_rfl)
                clear hf hx hd
                go_simp
                refine hK _ _ ?_
                exact ⟨⟨hI.1.alloc _, fun h => HK.blk_alloc (hI.2.1 h) _, fun h => (hI.2.2.1 h).alloc _, hI.2.2.2.alloc hI.2.2.2.size _⟩, fun h => f0 h, fun h => f1 h, fun h => f2 h, fun h => f3 h, fun h => f4 h, fun h => f5 h, fun h => f6 h, fun h => f7 h, fun h => f8 h, fun _ => ⟨l8, wR.heap.size, rfl, by have := hI.1.size; have := HML.out; omega, fun h => by have := HVL.out _ h; have := hI.1.size; omega, by simp, HK.blk_new _ _⟩, fun h => by have hh := f10 h; simp [hL] at hh, fun h => f11 h, fun h => absurd (f10 (f12 h).1).1 (by rw [hL]; decide)⟩
              · intro L x a wR K hL hd hf hx hΦ hK
                obtain ⟨hI, f0, f1, f2, f3, f4, f5, f6, f7, f8, f9, f10, f11, f12⟩ := hΦ
                refine ⟨fun _ => ?_, fun h => absurd h (by rw [Go.RE.wanted_none rfl]; decide)⟩
                have d1 := f1 (hd 1 (by kernel_rfl))
                have e89 : a.tmps[89]? = some (x 89) := hx 1 _ 89 rfl rfl (hd 1 (by kernel_rfl))
                rw [d1] at e89
                have d9 := f9 (hd 9 (by kernel_rfl))
                have e97 : a.tmps[97]? = some (x 97) := hx 9 _ 97 rfl rfl (hd 9 (by kernel_rfl))
                have l9 := hd 9 (by kernel_rfl)
                have l1 := hd 1 (by kernel_rfl)
                have hL12 : L 12 = false := by rcases e : L 12 with _ | _; rfl; exact absurd (f12 e).1 (by rw [hL]; decide)
                clear hf hx hd
                obtain ⟨l8, Bn, hB0, hBM, hBo, hBl, hBc⟩ := d9
                rw [hB0] at e97
                refine wp_app_any elem25 _ _ rfl vo w.heap.size k (ints xs) (ev e89) (hI.2.2.1 hL) ⟨Bn, 0, none⟩ 1 1 [.int .i64 (y : Int)] (ev e97) rfl (fun j u hj => by rw [addr_add0, HK.blk_cell hBc, List.getElem?_toArray]; exact hj) (by simp [Value.oneCell']) (by have := HK4.out; simp only [maxLen]; omega) (by have := HK4.out; omega) hI.2.2.2.size ?_
                intro v' w' hown hgrow hnil hat
                obtain ⟨gg, cc, rfl, _, hglt⟩ := own_form9 hown (by omega)
                have hat : some gg = vo.ownBlock ∨ some gg = some wR.heap.size := hat
                have hoM := HVM.out
                have hMl := HML.out
                refine hK _ _ ?_
                exact ⟨⟨hI.1.grown hgrow (fun j hj => .inl (.inr hj)), fun h => HK.blk_grown (hI.2.1 h) hgrow hoM.symm, (fun h => by cases h), hI.2.2.2.grown hgrow hI.2.2.2.size (fun j hj => HVG.out j hj)⟩, fun h => f0 h, fun h => f1 h, fun h => f2 h, fun h => f3 h, fun h => f4 h, fun h => f5 h, fun h => f6 h, fun h => f7 h, fun h => f8 h, fun h => (f9 h).imp id fun h => h.imp fun Bn h => ⟨h.1, h.2.1, h.2.2.1, Nat.lt_of_lt_of_le h.2.2.2.1 hgrow.size, HK.blk_grown h.2.2.2.2 hgrow h.2.2.1.symm⟩, fun _ => ⟨l9, l1, _, _, rfl, hown, (by rcases hat with h | h; intro e; exact hoM (by rw [← h, e]); have h3 : gg = wR.heap.size := Option.some.inj h; have := hI.1.size; omega), (by rcases hat with h | h; intro e; exact HVN.out _ h.symm (by rw [e]; rfl); have h3 : gg = wR.heap.size := Option.some.inj h; have := hI.1.size; have := HGO.out; omega)⟩, fun h => f11 h, fun h => by have hh := f12 h; simp [hL] at hh⟩
              · intro L x a wR K hL hd hf hx hΦ hK
                obtain ⟨hI, f0, f1, f2, f3, f4, f5, f6, f7, f8, f9, f10, f11, f12⟩ := hΦ
                refine ⟨fun _ => ?_, fun h => absurd h (by rw [Go.RE.wanted_none rfl]; decide)⟩
                have e12 : a.tmps[12]? = some (.pointer (some ⟨BP, 0, none⟩)) := hf 12 (of_decide_eq_true (by kernel_rfl))
                clear hf hx hd
                go_simp
                refine hK _ _ ?_
                exact ⟨hI, fun h => f0 h, fun h => f1 h, fun h => f2 h, fun h => f3 h, fun h => f4 h, fun h => f5 h, fun h => f6 h, fun h => f7 h, fun h => f8 h, fun h => f9 h, fun h => f10 h, fun _ => rfl, fun h => f12 h⟩
              · intro L x a wR K hL hd hf hx hΦ hK
                obtain ⟨hI, f0, f1, f2, f3, f4, f5, f6, f7, f8, f9, f10, f11, f12⟩ := hΦ
                refine ⟨fun _ => ?_, fun h => absurd h (by rw [Go.RE.wanted_none rfl]; decide)⟩
                have d11 := f11 (hd 11 (by kernel_rfl))
                have e99 : a.tmps[99]? = some (x 99) := hx 11 _ 99 rfl rfl (hd 11 (by kernel_rfl))
                rw [d11] at e99
                have d10 := f10 (hd 10 (by kernel_rfl))
                have e98 : a.tmps[98]? = some (x 98) := hx 10 _ 98 rfl rfl (hd 10 (by kernel_rfl))
                have l10 := hd 10 (by kernel_rfl)
                clear hf hx hd
                obtain ⟨l9, l1, g9, c9, hv', hown, hvM, hvG⟩ := d10
                rw [hv'] at e98
                have cf := fun i => HK.blk_frozen (hI.2.1 hL) i
                have c := HK.blk_cell (hI.2.1 hL) 2
                go_simp
                refine hK undef _ ?_
                exact ⟨⟨hI.1.setCell (p := ⟨BP, 2, none⟩) (.inl (.inl rfl)) _, (fun h => by cases h), fun h => owns_setCell (hI.2.2.1 h) (p := ⟨BP, 2, none⟩) HVM.out _, hI.2.2.2.setCell (p := ⟨BP, 2, none⟩) HMG.out _⟩, fun h => f0 h, fun h => f1 h, fun h => f2 h, fun h => f3 h, fun h => f4 h, fun h => f5 h, fun h => f6 h, fun h => f7 h, fun h => f8 h, fun h => (f9 h).imp id fun h => h.imp fun Bn h => ⟨h.1, h.2.1, h.2.2.1, by simpa using h.2.2.2.1, HK.blk_set_other h.2.2.2.2 (p := ⟨BP, 2, none⟩) h.2.1 _⟩, fun h => ⟨(f10 h).1, (f10 h).2.1, g9, c9, hv', owns_setCell hown (p := ⟨BP, 2, none⟩) (by simp only [Value.ownBlock]; intro e; exact hvM (Option.some.inj e)) _, hvM, hvG⟩, fun h => f11 h, fun _ => ⟨l10, g9, c9, hv', by have := HK.blk_set (hI.2.1 hL) 2 (.slice (some ⟨g9, 0, none⟩) (k + 1) c9); simpa using this⟩⟩
              · rintro x W ⟨hI, f0, f1, f2, f3, f4, f5, f6, f7, f8, f9, f10, f11, f12⟩
                obtain ⟨_, g1, c1, hv', hm⟩ := f12 rfl
                obtain ⟨_, _, g2, c2, hv2, hown, _, hgn⟩ := f10 rfl
                have hup := HUP.out _ hI.1 hI.2.2.2
                obtain ⟨rfl, rfl⟩ : g1 = g2 ∧ c1 = c2 := by rw [hv2] at hv'; injection hv' with h1 h2 h3; injection h1 with h1; injection h1 with h1; exact ⟨h1.symm, h3.symm⟩
                have hI2 : PtJ w mv B BP old (.slice (some ⟨go, 0, none⟩) ln co) kind (.slice (some ⟨g1, 0, none⟩) (k + 1) c1) (xs ++ [y]) (.slice none 0 0) [] W := ⟨hup, by rw [HLE.out]; exact hm, by rw [ints_append, List.length_append, HLT.out]; exact hown, World.ownsRow_nil _ _ _ _, fun g h => by simp [Value.ownBlock] at h ⊢; subst h; exact hgn⟩
                have HI2 := Lib.hid hI2
                clear hI hI2 hv' hm hv2 hown hup hgn f0 f1 f2 f3 f4 f5 f6 f7 f8 f9 f10 f11 f12 HMB HOW HBW HVM HVL HVG HML HMG HUP HK4 HMO HXC HMV2 HVN HGO
                simp only [Exit.then, Go.RE.fillL, List.any_cons, List.any_nil, Nat.beq, Bool.or_false, Bool.or_true, cond_true, cond_false, Bool.true_or, Bool.false_or]
                go_wp2_with (fail)
                go_roundw
                case rel => exact ⟨k + 1, _, by omega, by go_num, by rw [HNX.out]; exact HI2.out⟩
                case measure => simp [intOf]; omega
            · obtain rfl : k = ln := by omega
              rw [List.take_of_length_le (by rw [← HLN.out]; exact Nat.le_refl _)] at hI
              have hI : PtJ w mv B BP old (.slice (some ⟨go, 0, none⟩) k co) kind vo (relS rel old) (.slice none 0 0) [] wr := hI
              have hlr : (relS rel old).length = k := by rw [relS_len, HLN.out]
              obtain ⟨rg, rc, rfl, hr1, hr2⟩ := own_form9 hI.hv (by rw [relS_len]; exact HPO.out.pos)
              rw [hlr] at hI
              have HJ := Lib.hid hI
              have hm' := hI.i.hm
              rw [HMV.out] at hm'
              have d4 := HK.blk_cell hm' 4
              clear hm' hI hlt hr1 hr2 HJ0
              go_wp2_with (fail)
              clear d4
              go_loopw [104] (fun i wr => ∃ (z : Nat) (vo : Value), z ≤ fn ∧ i = .int .i64 z ∧ PtJ w mv B BP old (.slice (some ⟨go, 0, none⟩) k co) kind (.slice (some ⟨rg, 0, none⟩) k rc) (relS rel old) vo (movF old (facts.take z)) wr) (fun i _ => fn - (intOf i).toNat)
              case atStart => exact ⟨0, _, by omega, rfl, HJ.out⟩
              case round =>
                obtain ⟨z, vo, hz, rfl, hI⟩ := hrel
                have hlt : (movF old (facts.take z)).length = z := by unfold movF; rw [List.length_map, List.length_take, HFN.out]; omega
                by_cases hzn : (z : Int) < (fn : Int)
                · have b1 : (0 : Int) ≤ (z : Int) := by omega
                  obtain ⟨⟨nm, ar, mz⟩, hu⟩ : ∃ u, facts[z]? = some u := ⟨_, List.getElem?_eq_getElem (by have := HFN.out; omega)⟩
                  obtain ⟨har, xr, hmx, hx16⟩ := HFM.out z _ hu
                  simp only [] at har hmx
                  subst har hmx
                  obtain ⟨y, hy⟩ : ∃ y, y = movS old xr := ⟨_, rfl⟩
                  obtain ⟨xs, hxs⟩ : ∃ xs, xs = movF old (facts.take z) := ⟨_, rfl⟩
                  have HNX : Hid (movF old (facts.take (z + 1)) = xs ++ [(nm, 0, (y : Int))]) := Lib.hid (by rw [movF_take hu, ← hxs, hy]; rfl)
                  rw [← hxs] at hI hlt
                  obtain ⟨fg, fo, hfa, hfg, q0, q1, q2, hsz⟩ := HF.out.2 z _ hu
                  simp only [] at hfa q0 q1 q2 hsz
                  subst hfa
                  replace q0 := (World.cell?_of_block (a := ⟨fg, fo + z * 3, none⟩) (hI.i.bl.block fg hfg)).trans q0
                  replace q1 := (World.cell?_of_block (a := ⟨fg, fo + z * 3 + 1, none⟩) (hI.i.bl.block fg hfg)).trans q1
                  replace q2 := (World.cell?_of_block (a := ⟨fg, fo + z * 3 + 2, none⟩) (hI.i.bl.block fg hfg)).trans q2
                  have HII := Lib.hid hI
                  have HLT := Lib.hid hlt
                  have HX16 := Lib.hid hx16
                  have HY := Lib.hid hy
                  have HSZ := Lib.hid hsz
                  clear hI hxs hu hy hlt hx16 hsz hfg
                  go_upto_region 32 with (fail)
                  have HQF : Hid ((wr.alloc (.cells #[.string nm, .int .i64 0, .int .i64 (xr : Int)] 46)).heap[wr.heap.size]? = some (.cells #[.string nm, .int .i64 0, .int .i64 (xr : Int)] 46 (0, 0))) := Lib.hid (HK.blk_new _ _)
                  have HQI : Hid (PtJ w mv B BP old (.slice (some ⟨go, 0, none⟩) k co) kind (.slice (some ⟨rg, 0, none⟩) k rc) (relS rel old) vo xs (wr.alloc (.cells #[.string nm, .int .i64 0, .int .i64 (xr : Int)] 46))) := Lib.hid ⟨HII.out.i.alloc _, HK.blk_alloc HII.out.hp _, HII.out.hv.alloc _, HII.out.hw.alloc _, HII.out.ne⟩
                  have HVF : Hid (∀ g, vo.ownBlock = some g → g < wr.heap.size) := Lib.hid (own_lt9 HII.out.hw)
                  have HBF : Hid (BP < wr.heap.size) := Lib.hid (HK.blk_lt HII.out.hp)
                  obtain ⟨q, hq⟩ : ∃ q : World, q = wr.alloc (.cells #[.string nm, .int .i64 0, .int .i64 (xr : Int)] 46) := ⟨_, rfl⟩
                  obtain ⟨FB, hFB⟩ : ∃ FB, FB = wr.heap.size := ⟨_, rfl⟩
                  rw [← hq] at HQF HQI ⊢
                  rw [← hFB] at HQF HVF HBF ⊢
                  clear hq hFB q0 q1 q2 HII
                  have hI := HQI.out
                  have HUP : Hid (∀ W, HK.Frm (fun j => j = BP ∨ vo.ownBlock = some j) q W → Below w.heap.size w W → PtI w mv B old (.slice (some ⟨go, 0, none⟩) k co) W ∧ W.ownsRow w.heap.size 3 1 (.slice (some ⟨rg, 0, none⟩) k rc) k (ints (relS rel old))) := Lib.hid fun W h hb => ⟨hI.i.frm h (by rintro (e | e); have := HBP.out; omega; exact owns_ne_type hI.hw hI.i.hm (by intro c h; injection h with _ h _; cases h) e) (by rintro (e | e); have := HBP.out; omega; exact owns_ne_type hI.hw hI.i.hr (by intro c h; injection h with _ h _; cases h) e) (by rintro (e | e); have := HBP.out; omega; exact owns_ne_type hI.hw hI.i.hb (by intro c h; injection h with _ h _; cases h) e) (fun g hg => by
                    rintro (e | e)
                    · subst e; exact owns_ne_type hI.i.ho hI.hp (by intro c h; injection h with _ h _; cases h) hg
                    · obtain ⟨cc, hcc⟩ := own_blk hI.hw e
                      exact owns_ne_type hI.i.ho hcc (by intro c h; injection h with _ h _; cases h) hg) hb, by
                    have hv := hI.hv
                    rw [hlr] at hv
                    exact h.owns hv fun g hg => by
                      rintro (e | e)
                      · subst e; exact owns_ne_type hv hI.hp (by intro c h; injection h with _ h _; cases h) hg
                      · obtain ⟨cc, hcc⟩ := own_blk hI.hw e
                        exact owns_ne_type hv hcc (by intro c h; injection h with _ h _; cases h) hg⟩
                  have HFB : Hid (∀ W, HK.Frm (fun j => j = BP ∨ vo.ownBlock = some j) q W → W.heap[FB]? = some (.cells #[.string nm, .int .i64 0, .int .i64 (xr : Int)] 46 (0, 0))) := Lib.hid fun W h => h.heap HQF.out (by rintro (e | e); have := HBF.out; omega; have := HVF.out _ e; omega)
                  have HMO : Hid (∀ W, HK.Frm (fun j => j = BP ∨ vo.ownBlock = some j) q W → Below w.heap.size w W → Calls Tryd.prog 51 #[.int .i64 (xr : Int), .pointer (some ⟨B, 0, none⟩)] W fun e w' => e = .returned (.int .i64 (y : Nat)) ∧ w' = W) := Lib.hid fun W h hb => by
                    have hP := (HUP.out W h hb).1
                    have := moved_call W B go k co old hP.hb (isR_own (by have := hP.ho; rwa [← HLN.out] at this)) HLN.out.symm hln4 (fun k hk => by have := HOLT.out k (by rw [← HLN.out]; exact hk); have := HOK.out.len; omega) xr HX16.out
                    rw [← HY.out] at this
                    exact this
                  have hmb := hI.hp
                  rw [← HLN.out] at hmb
                  have HMB := Lib.hid hmb
                  have how := hI.hw
                  rw [HLT.out] at how
                  have HOW := Lib.hid how
                  have HBW := Lib.hid hI.i.bl
                  have HVM : Hid (vo.ownBlock ≠ some BP) := Lib.hid (owns_ne_type hI.hw hI.hp (by intro c h; injection h with _ h _; cases h))
                  have HVL := Lib.hid (own_lt9 hI.hw)
                  have HVG := Lib.hid (own_ge hI.hw)
                  have HML := Lib.hid (HK.blk_lt hI.hp)
                  have HMG : Hid (w.heap.size ≤ BP) := Lib.hid (by have := HBP.out; omega)
                  have HK4 : Hid (z ≤ 1000000000) := Lib.hid (by have := HFL.out; omega)
                  have HLE : Hid (old.length = k) := Lib.hid HLN.out.symm
                  clear hI hmb how
                  refine Go.RE.wp_region_eachg [108, 109, 110, 111, 112, 113, 114, 115, 116, 117, 118, 119] (fun L x W => (HK.Frm (fun j => j = BP ∨ vo.ownBlock = some j) q W ∧ (L 12 = false → W.heap[BP]? = some (.cells #[.int .u8 (kind : Int), .int .i64 (k : Int), .slice (some ⟨rg, 0, none⟩) k rc, .int .i64 0, vo, .slice none 0 0, .slice none 0 0] 30 (0, 0))) ∧ (L 10 = false → W.ownsRow w.heap.size 46 3 vo z (fcsF xs)) ∧ Below w.heap.size w W) ∧ (L 0 = true → x 108 = .pointer (some ⟨BP, 4, none⟩)) ∧ (L 1 = true → x 109 = vo) ∧ (L 2 = true → x 110 = .pointer (some ⟨FB, 0, none⟩)) ∧ (L 3 = true → x 111 = .string nm) ∧ (L 4 = true → x 112 = .func (.func 51) #[] #[.pointer (some ⟨B, 0, none⟩)]) ∧ (L 5 = true → x 113 = .pointer (some ⟨FB, 2, none⟩)) ∧ (L 6 = true → x 114 = .int .i64 (xr : Int)) ∧ (L 7 = true → x 115 = .int .i64 (y : Nat)) ∧ (L 8 = true → x 116 = .agg #[.string nm, .int .i64 0, .int .i64 (y : Int)]) ∧ (L 9 = true → L 8 = true ∧ ∃ Bn, x 117 = .slice (some ⟨Bn, 0, none⟩) 1 1 ∧ Bn ≠ BP ∧ vo.ownBlock ≠ some Bn ∧ Bn < W.heap.size ∧ W.heap[Bn]? = some (.cells #[.string nm, .int .i64 0, .int .i64 (y : Int)] 46 (0, 0))) ∧ (L 10 = true → L 9 = true ∧ L 1 = true ∧ ∃ g c, x 118 = .slice (some ⟨g, 0, none⟩) (z + 1) c ∧ W.ownsRow w.heap.size 46 3 (.slice (some ⟨g, 0, none⟩) (z + 1) c) (z + 1) (fcsF xs ++ [.string nm, .int .i64 0, .int .i64 (y : Int)]) ∧ g ≠ BP ) ∧ (L 11 = true → x 119 = .pointer (some ⟨BP, 4, none⟩)) ∧ (L 12 = true → L 10 = true ∧ ∃ g c, x 118 = .slice (some ⟨g, 0, none⟩) (z + 1) c ∧ W.heap[BP]? = some (.cells #[.int .u8 (kind : Int), .int .i64 (k : Int), .slice (some ⟨rg, 0, none⟩) k rc, .int .i64 0, .slice (some ⟨g, 0, none⟩) (z + 1) c, .slice none 0 0, .slice none 0 0] 30 (0, 0)))) (by kernel_rfl) (by kernel_rfl) (by kernel_rfl) ?_ ((Go.RE.Each.cons ?_ (Go.RE.Each.cons ?_ (Go.RE.Each.cons ?_ (Go.RE.Each.cons ?_ (Go.RE.Each.cons ?_ (Go.RE.Each.cons ?_ (Go.RE.Each.cons ?_ (Go.RE.Each.cons ?_ (Go.RE.Each.cons ?_ (Go.RE.Each.cons ?_ (Go.RE.Each.cons ?_ (Go.RE.Each.cons ?_ (Go.RE.Each.cons ?_ Go.RE.Each.nil)))))))))))))) ?_
                  · exact fun x => ⟨⟨HK.Frm.drew (HK.Frm.refl _ _), fun _ => HMB.out, fun _ => HOW.out, bl_dr HBW.out⟩, fun h => (by cases h), fun h => (by cases h), fun h => (by cases h), fun h => (by cases h), fun h => (by cases h), fun h => (by cases h), fun h => (by cases h), fun h => (by cases h), fun h => (by cases h), fun h => (by cases h), fun h => (by cases h), fun h => (by cases h), fun h => (by cases h)⟩
                  · intro L x a wR K hL hd hf hx hΦ hK
                    obtain ⟨hI, f0, f1, f2, f3, f4, f5, f6, f7, f8, f9, f10, f11, f12⟩ := hΦ
                    refine ⟨fun _ => ?_, fun h => absurd h (by rw [Go.RE.wanted_none rfl]; decide)⟩
                    have e12 : a.tmps[12]? = some (.pointer (some ⟨BP, 0, none⟩)) := hf 12 (of_decide_eq_true (by kernel_rfl))
                    clear hf hx hd
                    go_simp
                    refine hK _ _ ?_
                    exact ⟨hI, fun _ => rfl, fun h => f1 h, fun h => f2 h, fun h => f3 h, fun h => f4 h, fun h => f5 h, fun h => f6 h, fun h => f7 h, fun h => f8 h, fun h => f9 h, fun h => f10 h, fun h => f11 h, fun h => f12 h⟩
                  · intro L x a wR K hL hd hf hx hΦ hK
                    obtain ⟨hI, f0, f1, f2, f3, f4, f5, f6, f7, f8, f9, f10, f11, f12⟩ := hΦ
                    refine ⟨fun _ => ?_, fun h => absurd h (by rw [Go.RE.wanted_none rfl]; decide)⟩
                    have d0 := f0 (hd 0 (by kernel_rfl))
                    have e108 : a.tmps[108]? = some (x 108) := hx 0 _ 108 rfl rfl (hd 0 (by kernel_rfl))
                    rw [d0] at e108
                    have hL12 : L 12 = false := by rcases e : L 12 with _ | _; rfl; exact absurd (f10 (f12 e).1).2.1 (by rw [hL]; decide)
                    have c := HK.blk_cell (hI.2.1 hL12) 4
                    clear hf hx hd
                    go_simp
                    refine hK _ _ ?_
                    exact ⟨hI, fun h => f0 h, fun _ => rfl, fun h => f2 h, fun h => f3 h, fun h => f4 h, fun h => f5 h, fun h => f6 h, fun h => f7 h, fun h => f8 h, fun h => f9 h, fun h => by have hh := f10 h; simp [hL] at hh, fun h => f11 h, fun h => f12 h⟩
                  · intro L x a wR K hL hd hf hx hΦ hK
                    obtain ⟨hI, f0, f1, f2, f3, f4, f5, f6, f7, f8, f9, f10, f11, f12⟩ := hΦ
                    refine ⟨fun _ => ?_, fun h => absurd h (by rw [Go.RE.wanted_none rfl]; decide)⟩
                    have e16 : a.tmps[16]? = some (.pointer (some ⟨FB, 0, none⟩)) := hf 16 (of_decide_eq_true (by kernel_rfl))
                    clear hf hx hd
                    go_simp
                    refine hK _ _ ?_
                    exact ⟨hI, fun h => f0 h, fun h => f1 h, fun _ => rfl, fun h => f3 h, fun h => f4 h, fun h => f5 h, fun h => f6 h, fun h => f7 h, fun h => f8 h, fun h => f9 h, fun h => f10 h, fun h => f11 h, fun h => f12 h⟩
                  · intro L x a wR K hL hd hf hx hΦ hK
                    obtain ⟨hI, f0, f1, f2, f3, f4, f5, f6, f7, f8, f9, f10, f11, f12⟩ := hΦ
                    refine ⟨fun _ => ?_, fun h => absurd h (by rw [Go.RE.wanted_none rfl]; decide)⟩
                    have d2 := f2 (hd 2 (by kernel_rfl))
                    have e110 : a.tmps[110]? = some (x 110) := hx 2 _ 110 rfl rfl (hd 2 (by kernel_rfl))
                    rw [d2] at e110
                    have c := HK.blk_cell (HFB.out _ hI.1) 0
                    clear hf hx hd
                    go_simp
                    refine hK _ _ ?_
                    exact ⟨hI, fun h => f0 h, fun h => f1 h, fun h => f2 h, fun _ => rfl, fun h => f4 h, fun h => f5 h, fun h => f6 h, fun h => f7 h, fun h => f8 h, fun h => f9 h, fun h => f10 h, fun h => f11 h, fun h => f12 h⟩
                  · intro L x a wR K hL hd hf hx hΦ hK
                    obtain ⟨hI, f0, f1, f2, f3, f4, f5, f6, f7, f8, f9, f10, f11, f12⟩ := hΦ
                    refine ⟨fun _ => ?_, fun h => absurd h (by rw [Go.RE.wanted_none rfl]; decide)⟩
                    have e11 : a.tmps[11]? = some (.func (.func 51) #[] #[.pointer (some ⟨B, 0, none⟩)]) := hf 11 (of_decide_eq_true (by kernel_rfl))
                    clear hf hx hd
                    go_simp
                    refine hK _ _ ?_
                    exact ⟨hI, fun h => f0 h, fun h => f1 h, fun h => f2 h, fun h => f3 h, fun _ => rfl, fun h => f5 h, fun h => f6 h, fun h => f7 h, fun h => f8 h, fun h => f9 h, fun h => f10 h, fun h => f11 h, fun h => f12 h⟩
                  · intro L x a wR K hL hd hf hx hΦ hK
                    obtain ⟨hI, f0, f1, f2, f3, f4, f5, f6, f7, f8, f9, f10, f11, f12⟩ := hΦ
                    refine ⟨fun _ => ?_, fun h => absurd h (by rw [Go.RE.wanted_none rfl]; decide)⟩
                    have e16 : a.tmps[16]? = some (.pointer (some ⟨FB, 0, none⟩)) := hf 16 (of_decide_eq_true (by kernel_rfl))
                    clear hf hx hd
                    go_simp
                    refine hK _ _ ?_
                    exact ⟨hI, fun h => f0 h, fun h => f1 h, fun h => f2 h, fun h => f3 h, fun h => f4 h, fun _ => rfl, fun h => f6 h, fun h => f7 h, fun h => f8 h, fun h => f9 h, fun h => f10 h, fun h => f11 h, fun h => f12 h⟩
                  · intro L x a wR K hL hd hf hx hΦ hK
                    obtain ⟨hI, f0, f1, f2, f3, f4, f5, f6, f7, f8, f9, f10, f11, f12⟩ := hΦ
                    refine ⟨fun _ => ?_, fun h => absurd h (by rw [Go.RE.wanted_none rfl]; decide)⟩
                    have d5 := f5 (hd 5 (by kernel_rfl))
                    have e113 : a.tmps[113]? = some (x 113) := hx 5 _ 113 rfl rfl (hd 5 (by kernel_rfl))
                    rw [d5] at e113
                    have c := HK.blk_cell (HFB.out _ hI.1) 2
                    clear hf hx hd
                    go_simp
                    refine hK _ _ ?_
                    exact ⟨hI, fun h => f0 h, fun h => f1 h, fun h => f2 h, fun h => f3 h, fun h => f4 h, fun h => f5 h, fun _ => rfl, fun h => f7 h, fun h => f8 h, fun h => f9 h, fun h => f10 h, fun h => f11 h, fun h => f12 h⟩
                  · intro L x a wR K hL hd hf hx hΦ hK
                    obtain ⟨hI, f0, f1, f2, f3, f4, f5, f6, f7, f8, f9, f10, f11, f12⟩ := hΦ
                    refine ⟨fun _ => ?_, fun h => absurd h (by rw [Go.RE.wanted_none rfl]; decide)⟩
                    have d4 := f4 (hd 4 (by kernel_rfl))
                    have e112 : a.tmps[112]? = some (x 112) := hx 4 _ 112 rfl rfl (hd 4 (by kernel_rfl))
                    rw [d4] at e112
                    have d6 := f6 (hd 6 (by kernel_rfl))
                    have e114 : a.tmps[114]? = some (x 114) := hx 6 _ 114 rfl rfl (hd 6 (by kernel_rfl))
                    rw [d6] at e114
                    clear hf hx hd
                    have HC := Lib.hid (HMO.out _ hI.1 hI.2.2.2)
                    go_simp
                    go_at_call 51
                    with_reducible refine HC.out.mono ?_
                    rintro e w' ⟨rfl, hw'⟩
                    have hw' := hw'.symm
                    subst hw'
                    simp only
                    refine hK _ _ ?_
                    exact ⟨hI, fun h => f0 h, fun h => f1 h, fun h => f2 h, fun h => f3 h, fun h => f4 h, fun h => f5 h, fun h => f6 h, fun _ => rfl, fun h => f8 h, fun h => f9 h, fun h => f10 h, fun h => f11 h, fun h => f12 h⟩
                  · intro L x a wR K hL hd hf hx hΦ hK
                    obtain ⟨hI, f0, f1, f2, f3, f4, f5, f6, f7, f8, f9, f10, f11, f12⟩ := hΦ
                    refine ⟨fun _ => ?_, fun h => absurd h (by rw [Go.RE.wanted_none rfl]; decide)⟩
                    have d3 := f3 (hd 3 (by kernel_rfl))
                    have e111 : a.tmps[111]? = some (x 111) := hx 3 _ 111 rfl rfl (hd 3 (by kernel_rfl))
                    rw [d3] at e111
                    have d7 := f7 (hd 7 (by kernel_rfl))
                    have e115 : a.tmps[115]? = some (x 115) := hx 7 _ 115 rfl rfl (hd 7 (by kernel_rfl))
                    rw [d7] at e115
                    clear hf hx hd
                    go_simp
                    refine hK _ _ ?_
                    exact ⟨hI, fun h => f0 h, fun h => f1 h, fun h => f2 h, fun h => f3 h, fun h => f4 h, fun h => f5 h, fun h => f6 h, fun h => f7 h, fun _ => rfl, fun h => by have hh := f9 h; simp [hL] at hh, fun h => f10 h, fun h => f11 h, fun h => f12 h⟩
                  · intro L x a wR K hL hd hf hx hΦ hK
                    obtain ⟨hI, f0, f1, f2, f3, f4, f5, f6, f7, f8, f9, f10, f11, f12⟩ := hΦ
                    refine ⟨fun _ => ?_, fun h => absurd h (by rw [Go.RE.wanted_none rfl]; decide)⟩
                    have d8 := f8 (hd 8 (by kernel_rfl))
                    have e116 : a.tmps[116]? = some (x 116) := hx 8 _ 116 rfl rfl (hd 8 (by kernel_rfl))
                    rw [d8] at e116
                    have l8 := hd 8 (by kernel_rfl)
                    clear hf hx hd
                    go_simp
                    refine hK _ _ ?_
                    exact ⟨⟨hI.1.alloc _, fun h => HK.blk_alloc (hI.2.1 h) _, fun h => (hI.2.2.1 h).alloc _, hI.2.2.2.alloc hI.2.2.2.size _⟩, fun h => f0 h, fun h => f1 h, fun h => f2 h, fun h => f3 h, fun h => f4 h, fun h => f5 h, fun h => f6 h, fun h => f7 h, fun h => f8 h, fun _ => ⟨l8, wR.heap.size, rfl, by have := hI.1.size; have := HML.out; omega, fun h => by have := HVL.out _ h; have := hI.1.size; omega, by simp, HK.blk_new _ _⟩, fun h => by have hh := f10 h; simp [hL] at hh, fun h => f11 h, fun h => absurd (f10 (f12 h).1).1 (by rw [hL]; decide)⟩
                  · intro L x a wR K hL hd hf hx hΦ hK
                    obtain ⟨hI, f0, f1, f2, f3, f4, f5, f6, f7, f8, f9, f10, f11, f12⟩ := hΦ
                    refine ⟨fun _ => ?_, fun h => absurd h (by rw [Go.RE.wanted_none rfl]; decide)⟩
                    have d1 := f1 (hd 1 (by kernel_rfl))
                    have e109 : a.tmps[109]? = some (x 109) := hx 1 _ 109 rfl rfl (hd 1 (by kernel_rfl))
                    rw [d1] at e109
                    have d9 := f9 (hd 9 (by kernel_rfl))
                    have e117 : a.tmps[117]? = some (x 117) := hx 9 _ 117 rfl rfl (hd 9 (by kernel_rfl))
                    have l9 := hd 9 (by kernel_rfl)
                    have l1 := hd 1 (by kernel_rfl)
                    have hL12 : L 12 = false := by rcases e : L 12 with _ | _; rfl; exact absurd (f12 e).1 (by rw [hL]; decide)
                    clear hf hx hd
                    obtain ⟨l8, Bn, hB0, hBM, hBo, hBl, hBc⟩ := d9
                    rw [hB0] at e117
                    refine wp_app_any elem26 _ _ rfl vo w.heap.size z (fcsF xs) (ev e109) (hI.2.2.1 hL) ⟨Bn, 0, none⟩ 1 1 [.string nm, .int .i64 0, .int .i64 (y : Int)] (ev e117) rfl (fun j u hj => by rw [addr_add0, HK.blk_cell hBc, List.getElem?_toArray]; exact hj) (by simp [Value.oneCell']) (by have := HK4.out; simp only [maxLen]; omega) (by have := HK4.out; omega) hI.2.2.2.size ?_
                    intro v' w' hown hgrow hnil hat
                    obtain ⟨gg, cc, rfl, _, hglt⟩ := own_form9 hown (by omega)
                    have hat : some gg = vo.ownBlock ∨ some gg = some wR.heap.size := hat
                    have hoM := HVM.out
                    have hMl := HML.out
                    refine hK _ _ ?_
                    exact ⟨⟨hI.1.grown hgrow (fun j hj => .inl (.inr hj)), fun h => HK.blk_grown (hI.2.1 h) hgrow hoM.symm, (fun h => by cases h), hI.2.2.2.grown hgrow hI.2.2.2.size (fun j hj => HVG.out j hj)⟩, fun h => f0 h, fun h => f1 h, fun h => f2 h, fun h => f3 h, fun h => f4 h, fun h => f5 h, fun h => f6 h, fun h => f7 h, fun h => f8 h, fun h => (f9 h).imp id fun h => h.imp fun Bn h => ⟨h.1, h.2.1, h.2.2.1, Nat.lt_of_lt_of_le h.2.2.2.1 hgrow.size, HK.blk_grown h.2.2.2.2 hgrow h.2.2.1.symm⟩, fun _ => ⟨l9, l1, _, _, rfl, hown, (by rcases hat with h | h; intro e; exact hoM (by rw [← h, e]); have h3 : gg = wR.heap.size := Option.some.inj h; have := hI.1.size; omega)⟩, fun h => f11 h, fun h => by have hh := f12 h; simp [hL] at hh⟩
                  · intro L x a wR K hL hd hf hx hΦ hK
                    obtain ⟨hI, f0, f1, f2, f3, f4, f5, f6, f7, f8, f9, f10, f11, f12⟩ := hΦ
                    refine ⟨fun _ => ?_, fun h => absurd h (by rw [Go.RE.wanted_none rfl]; decide)⟩
                    have e12 : a.tmps[12]? = some (.pointer (some ⟨BP, 0, none⟩)) := hf 12 (of_decide_eq_true (by kernel_rfl))
                    clear hf hx hd
                    go_simp
                    refine hK _ _ ?_
                    exact ⟨hI, fun h => f0 h, fun h => f1 h, fun h => f2 h, fun h => f3 h, fun h => f4 h, fun h => f5 h, fun h => f6 h, fun h => f7 h, fun h => f8 h, fun h => f9 h, fun h => f10 h, fun _ => rfl, fun h => f12 h⟩
                  · intro L x a wR K hL hd hf hx hΦ hK
                    obtain ⟨hI, f0, f1, f2, f3, f4, f5, f6, f7, f8, f9, f10, f11, f12⟩ := hΦ
                    refine ⟨fun _ => ?_, fun h => absurd h (by rw [Go.RE.wanted_none rfl]; decide)⟩
                    have d11 := f11 (hd 11 (by kernel_rfl))
                    have e119 : a.tmps[119]? = some (x 119) := hx 11 _ 119 rfl rfl (hd 11 (by kernel_rfl))
                    rw [d11] at e119
                    have d10 := f10 (hd 10 (by kernel_rfl))
                    have e118 : a.tmps[118]? = some (x 118) := hx 10 _ 118 rfl rfl (hd 10 (by kernel_rfl))
                    have l10 := hd 10 (by kernel_rfl)
                    clear hf hx hd
                    obtain ⟨l9, l1, g9, c9, hv', hown, hvM⟩ := d10
                    rw [hv'] at e118
                    have cf := fun i => HK.blk_frozen (hI.2.1 hL) i
                    have c := HK.blk_cell (hI.2.1 hL) 4
                    go_simp
                    refine hK undef _ ?_
                    exact ⟨⟨hI.1.setCell (p := ⟨BP, 4, none⟩) (.inl (.inl rfl)) _, (fun h => by cases h), fun h => owns_setCell (hI.2.2.1 h) (p := ⟨BP, 4, none⟩) HVM.out _, hI.2.2.2.setCell (p := ⟨BP, 4, none⟩) HMG.out _⟩, fun h => f0 h, fun h => f1 h, fun h => f2 h, fun h => f3 h, fun h => f4 h, fun h => f5 h, fun h => f6 h, fun h => f7 h, fun h => f8 h, fun h => (f9 h).imp id fun h => h.imp fun Bn h => ⟨h.1, h.2.1, h.2.2.1, by simpa using h.2.2.2.1, HK.blk_set_other h.2.2.2.2 (p := ⟨BP, 4, none⟩) h.2.1 _⟩, fun h => ⟨(f10 h).1, (f10 h).2.1, g9, c9, hv', owns_setCell hown (p := ⟨BP, 4, none⟩) (by simp only [Value.ownBlock]; intro e; exact hvM (Option.some.inj e)) _, hvM⟩, fun h => f11 h, fun _ => ⟨l10, g9, c9, hv', by have := HK.blk_set (hI.2.1 hL) 4 (.slice (some ⟨g9, 0, none⟩) (z + 1) c9); simpa using this⟩⟩
                  · rintro x W ⟨hI, f0, f1, f2, f3, f4, f5, f6, f7, f8, f9, f10, f11, f12⟩
                    obtain ⟨_, g1, c1, hv', hm⟩ := f12 rfl
                    obtain ⟨_, _, g2, c2, hv2, hown, _⟩ := f10 rfl
                    have hup := HUP.out _ hI.1 hI.2.2.2
                    obtain ⟨rfl, rfl⟩ : g1 = g2 ∧ c1 = c2 := by rw [hv2] at hv'; injection hv' with h1 h2 h3; injection h1 with h1; injection h1 with h1; exact ⟨h1.symm, h3.symm⟩
                    have hI2 : PtJ w mv B BP old (.slice (some ⟨go, 0, none⟩) k co) kind (.slice (some ⟨rg, 0, none⟩) k rc) (relS rel old) (.slice (some ⟨g1, 0, none⟩) (z + 1) c1) (xs ++ [(nm, 0, (y : Int))]) W := ⟨hup.1, by rw [HLE.out]; exact hm, by rw [hlr]; exact hup.2, by rw [fcsF_append, List.length_append, HLT.out]; exact hown, HQI.out.ne⟩
                    have HI2 := Lib.hid hI2
                    clear hI hI2 hv' hm hv2 hown hup f0 f1 f2 f3 f4 f5 f6 f7 f8 f9 f10 f11 f12 HMB HOW HBW HVM HVL HVG HML HMG HUP HK4 HMO HFB HQF HQI
                    simp only [Exit.then, Go.RE.fillL, List.any_cons, List.any_nil, Nat.beq, Bool.or_false, Bool.or_true, cond_true, cond_false, Bool.true_or, Bool.false_or]
                    have hz9 : fn ≤ 1000000000 := HFL.out
                    go_wp2_with (fail)
                    have hz9 : fn ≤ 1000000000 := HFL.out
                    go_roundw
                    case rel => exact ⟨z + 1, _, by omega, by go_num, by rw [HNX.out]; exact HI2.out⟩
                    case measure => simp [intOf]; omega
                · obtain rfl : z = fn := by omega
                  rw [List.take_of_length_le (by rw [HFN.out]; exact Nat.le_refl _)] at hI
                  have hlf : (movF old facts).length = z := by unfold movF; rw [List.length_map, HFN.out]
                  obtain ⟨f0, f1, rfl⟩ : ∃ f0 f1, vo = .slice f0 z f1 := by
                    have := hI.hw
                    rw [hlf] at this
                    rcases this.2 with ⟨rfl, h2⟩ | ⟨g, cap, cur, rfl, _⟩
                    · rw [h2]; exact ⟨_, _, rfl⟩
                    · exact ⟨_, _, rfl⟩
                  have hp := hI.hp
                  rw [← HLN.out] at hp
                  have m0 := HK.blk_cell hp
                  have d0 := m0 0
                  have d1 := m0 1
                  have d2 := m0 2
                  have d3 := m0 3
                  have d4 := m0 4
                  have d5 := m0 5
                  have d6 := m0 6
                  have hr := hI.i.hr
                  have r0 := HK.blk_cell hr
                  have s0 := r0 0
                  have s1 := r0 1
                  have s2 := r0 2
                  have s3 := r0 3
                  have s4 := r0 4
                  have s5 := r0 5
                  have s6 := r0 6
                  have cf := fun i => HK.blk_frozen hr i
                  have HIE := Lib.hid hI
                  have HRE := Lib.hid hr
                  clear hp hr m0 r0 hI hlt
                  go_wp2_with (fail)
                  have hf7 := frm7 wr (w.heap.size + 1) (.int .u8 (kind : Int)) (.int .i64 (k : Int)) (.slice (some ⟨rg, 0, none⟩) k rc) (.int .i64 0) (.slice f0 z f1) (.slice none 0 0) (.slice none 0 0)
                  refine bodyPost_ret (results_row_tmp (p := 4) (u := 5) (by kernel_rfl) _ _ (w.heap.size + 1) 30 _ (0, 0) _ (.int .i64 0) rfl rfl (set7 HRE.out _ _ _ _ _ _ _) Tryd.underlying30 rfl (by kernel_rfl)) rfl ?_
                  have hI := HIE.out
                  refine ⟨rg, rc, f0, f1, ?_, hI.i.bl.trans (hf7.below hI.i.bl.size (fun j hj => by omega)), ?_, ?_⟩
                  · rw [← HLN.out, HFN.out]
                  · have hv := hI.hv
                    rw [hlr] at hv
                    rw [← HLN.out]
                    exact hf7.owns hv (fun gg e e2 => owns_ne_type hv hI.i.hr (by intro c h; injection h with _ h _; cases h) (e.trans (congrArg some e2)))
                  · have hw := hI.hw
                    rw [hlf] at hw
                    rw [HFN.out]
                    exact hf7.owns hw (fun gg e e2 => owns_ne_type hw hI.i.hr (by intro c h; injection h with _ h _; cases h) (e.trans (congrArg some e2)))
end Go.Proofs.YtflmllablfjfeaaDoor
namespace Go.Proofs.YtflmllablfjfeaaDoor
open Go.RowKit Go.HK Go.FR
set_option linter.unusedVariables false
set_option linter.unusedSimpArgs false
set_option linter.unusedSectionVars false
theorem eqg46 : Tryd.prog.eqGuardType Tryd.prog.depth 46 = false := by kernel_rfl
theorem sth46 : Tryd.prog.stoodInHeld 46 = false := by kernel_rfl
theorem fact_refl (s : ByteArray) (i j : Int) (w : World) : (binOp .neq 46 (.agg #[.string s, .int .i64 i, .int .i64 j]) (.agg #[.string s, .int .i64 i, .int .i64 j])).run Tryd.prog w = .ok (.bool false) w := by
  rw [run_neq_struct, run_equalIn_agg _ _ _ _ _ (by kernel_rfl) sth46]
  have h9 := Tryd.underlying9
  have h3 := Tryd.underlying3
  have hi := info46
  have i9 : (Tryd.prog.info? 9).map (fun i => (i.size)) = some 1 := by kernel_rfl
  have i3 : (Tryd.prog.info? 3).map (fun i => (i.size)) = some 1 := by kernel_rfl
  simp [go_sem, Tryd.underlying46, h9, h3]
set_option maxRecDepth 100000 in
set_option maxHeartbeats 2000000 in
theorem sameFacts_yes (w : World) (s t : SL) (xs : List (ByteArray × Int × Int)) {S T : Nat → Prop} (hs : IsFz S w s xs) (ht : IsFz T w t xs) (hl : xs.length ≤ 1000000000) :
    Calls Tryd.prog 52 #[s.v, t.v] w (RetW w true) := by
  obtain ⟨sa, n, sc⟩ := s
  obtain ⟨ta, m, tc⟩ := t
  have h1 := hs.1
  have h2 := ht.1
  simp only [SL.v] at h1 h2 ⊢
  obtain rfl : n = m := by omega
  have HS := Lib.hid hs
  have HT := Lib.hid ht
  have H1 := Lib.hid h1
  have hn63 : n ≤ 1000000000 := by omega
  clear hs ht h1 h2 hl
  have hrf := fact_refl
  have hgd := eqg46
  go_enter Tryd.func52, Tryd.ntmps52
  go_wp2_with (fail)
  go_loopw [5] (fun i wr => ∃ k d : Nat, k ≤ n ∧ i = .int .i64 k ∧ wr = w.drewN d) (fun i _ => n - (intOf i).toNat)
  case atStart => exact ⟨0, 0, Nat.zero_le _, rfl, rfl⟩
  case round =>
    obtain ⟨k, d, hkn, rfl, rfl⟩ := hrel
    by_cases hlt : k < n
    · obtain ⟨⟨x1, x2, x3⟩, hx⟩ : ∃ x, xs[k]? = some x := ⟨_, List.getElem?_eq_getElem (by have := H1.out; omega)⟩
      obtain ⟨g, o, rfl, _, cx, cx1, cx2, _⟩ := HS.out.2 k _ hx
      obtain ⟨g', o', rfl, _, cy, cy1, cy2, _⟩ := HT.out.2 k _ hx
      have b0 : (0 : Int) ≤ (k : Int) := by omega
      have b1 : (k : Int) < (n : Int) := by omega
      clear hx
      go_wp2_with (fail)
      go_quiet (fail)
      go_wp2_with (fail)
      go_roundw
      case rel => exact ⟨k + 1, d + nq, by omega, by go_num, rfl⟩
      case measure => simp [intOf]; omega
    · go_wp2_with (fail)
      go_ret
      exact ⟨rfl, bl_drN (Below.refl _ _) _⟩
set_option maxRecDepth 100000 in
set_option maxHeartbeats 1000000 in
theorem sameFuncs_nil (w : World) (a b : Option Addr) (c d : Nat) : Calls Tryd.prog 53 #[.slice a 0 c, .slice b 0 d] w fun e w' => e = .returned (.bool true) ∧ w' = w := by
  go_enter Tryd.func53, Tryd.ntmps53
  go_wp2_with (fail)
  go_loopw [5] (fun i wr => i = .int .i64 0 ∧ wr = w) (fun i _ => 0)
  case atStart => exact ⟨rfl, rfl⟩
  case round =>
    obtain ⟨rfl, rfl⟩ := hrel
    go_wp2_with (fail)
    go_ret
    exact ⟨rfl, rfl⟩
set_option maxRecDepth 100000 in
set_option maxHeartbeats 1000000 in
theorem sameBinds_nil (w : World) (a b : Option Addr) (c d : Nat) : Calls Tryd.prog 54 #[.slice a 0 c, .slice b 0 d] w fun e w' => e = .returned (.bool true) ∧ w' = w := by
  go_enter Tryd.func54, Tryd.ntmps54
  go_wp2_with (fail)
  go_loopw [5] (fun i wr => i = .int .i64 0 ∧ wr = w) (fun i _ => 0)
  case atStart => exact ⟨rfl, rfl⟩
  case round =>
    obtain ⟨rfl, rfl⟩ := hrel
    go_wp2_with (fail)
    go_ret
    exact ⟨rfl, rfl⟩
set_option maxRecDepth 100000 in
set_option maxHeartbeats 4000000 in
theorem sameModel_yes (w : World) (v v' : Value) (m : Mdl) (hv : IsMv w v m) (hv' : IsMv w v' m) (hu : m.nu = 0) (hb : m.nb = 0) (hl : m.rel.length ≤ 1000000000) :
    Calls Tryd.prog 31 #[v, v'] w (RetW w true) := by
  obtain ⟨k, z, lp, r0, r1, r2, f0, f1, f2, u0, u1, u2, b0, b1, b2, rfl, rfl, rfl, rfl, h5⟩ := hv
  obtain ⟨k', z', lp', r0', r1', r2', f0', f1', f2', u0', u1', u2', b0', b1', b2', rfl, rfl, rfl, rfl, h5'⟩ := hv'
  have e1 : u1 = 0 := by have := h5.u; rw [hu] at this; exact this
  have e2 : b1 = 0 := by have := h5.b; rw [hb] at this; exact this
  have e3 : u1' = 0 := by have := h5'.u; rw [hu] at this; exact this
  have e4 : b1' = 0 := by have := h5'.b; rw [hb] at this; exact this
  subst e1 e2 e3 e4
  have hbl : ∀ o o2, Below w.heap.size w ((w.alloc o).alloc o2) := fun o o2 => ((Below.refl _ w).alloc (Nat.le_refl _) o).alloc (by simp) o2
  have HA : Hid (∀ o o2, Calls Tryd.prog 27 #[.slice r0 r1 r2, .slice r0' r1' r2'] ((w.alloc o).alloc o2) fun e w' => e = .returned (.bool true) ∧ Below ((w.alloc o).alloc o2).heap.size ((w.alloc o).alloc o2) w') := Lib.hid fun o o2 => by
    have := same_call ((w.alloc o).alloc o2) ⟨r0, r1, r2⟩ ⟨r0', r1', r2'⟩ m.rel m.rel ((h5.below (hbl o o2)).r) ((h5'.below (hbl o o2)).r) (by omega)
    rw [decide_eq_true rfl] at this
    exact this
  have HF : Hid (∀ W, Below w.heap.size w W → Calls Tryd.prog 52 #[.slice f0 f1 f2, .slice f0' f1' f2'] W fun e w' => e = .returned (.bool true) ∧ Below W.heap.size W w') := Lib.hid fun W hB =>
    sameFacts_yes W ⟨f0, f1, f2⟩ ⟨f0', f1', f2'⟩ m.facts (h5.below hB).f (h5'.below hB).f (by have := h5.l; have := h5.f.1; simp only [] at *; omega)
  have HBL : Hid (∀ o o2 W, Below ((w.alloc o).alloc o2).heap.size ((w.alloc o).alloc o2) W → Below w.heap.size w W) := Lib.hid fun o o2 W h => (hbl o o2).trans (h.mono (by simp; omega))
  have HCL : Hid (∀ o o2 W, Below ((w.alloc o).alloc o2).heap.size ((w.alloc o).alloc o2) W → W.heap[w.heap.size]? = ((w.alloc o).alloc o2).heap[w.heap.size]? ∧ W.heap[w.heap.size + 1]? = ((w.alloc o).alloc o2).heap[w.heap.size + 1]?) := Lib.hid fun o o2 W h => ⟨h.block _ (by simp; omega), h.block _ (by simp)⟩
  obtain ⟨kk, hkk⟩ : ∃ kk, kk = m.kind := ⟨_, rfl⟩
  obtain ⟨zz, hzz⟩ : ∃ kk, kk = m.size := ⟨_, rfl⟩
  obtain ⟨ll, hll⟩ : ∃ kk, kk = m.loop := ⟨_, rfl⟩
  rw [← hkk, ← hzz, ← hll]
  clear h5 h5' hbl hu hb hl hkk hzz hll
  go_enter Tryd.func31, Tryd.ntmps31
  go_wp2_with (first
    | (go_at_call 27; ((with_reducible refine (HA.out _ _).mono ?_); rintro e w1 ⟨rfl, hB1⟩)
       have HB1 := Lib.hid (HBL.out _ _ _ hB1)
       have hc := HCL.out _ _ _ hB1
       have hb1 := hc.1.trans (HK.blk_alloc (HK.blk_new w _) _)
       have hn2 := HK.blk_new (w.alloc (.cells #[.int .u8 (kk : Int), .int .i64 zz, .slice r0 r1 r2, .int .i64 ll, .slice f0 f1 f2, .slice u0 0 u2, .slice b0 0 b2] 30)) (.cells #[.int .u8 (kk : Int), .int .i64 zz, .slice r0' r1' r2', .int .i64 ll, .slice f0' f1' f2', .slice u0' 0 u2', .slice b0' 0 b2'] 30)
       rw [World.size_alloc] at hn2
       have hb2 := hc.2.trans hn2
       have HK1 := Lib.hid hb1
       have HK2 := Lib.hid hb2
       have m0 := HK.blk_cell hb1
       have n0 := HK.blk_cell hb2
       have d3 := m0 3
       have d4 := m0 4
       have n3 := n0 3
       have n4 := n0 4
       clear hc hn2 hb1 hb2 m0 n0 hB1)
    | (go_at_call 52; ((with_reducible refine (HF.out _ HB1.out).mono ?_); rintro e w2 ⟨rfl, hB2⟩)
       have HB2 := Lib.hid (below_tr HB1.out hB2)
       have hb1 := blk_up9 hB2 HK1.out
       have hb2 := blk_up9 hB2 HK2.out
       have m0 := HK.blk_cell hb1
       have n0 := HK.blk_cell hb2
       have d5 := m0 5
       have d6 := m0 6
       have n5 := n0 5
       have n6 := n0 6
       clear d3 d4 n3 n4 hb1 hb2 m0 n0 hB2)
    | (go_at_call 53; ((with_reducible refine (sameFuncs_nil _ _ _ _ _).mono ?_); rintro e w3 ⟨rfl, hw3⟩; have hw3 := hw3.symm; subst hw3))
    | (go_at_call 54; ((with_reducible refine (sameBinds_nil _ _ _ _ _).mono ?_); rintro e w4 ⟨rfl, hw4⟩; have hw4 := hw4.symm; subst hw4)))
  go_ret
  exact ⟨rfl, HB2.out⟩
end Go.Proofs.YtflmllablfjfeaaDoor
namespace Go.Proofs.YtflmllablfjfeaaDoor
open Go.RowKit Go.HK Go.FR
set_option linter.unusedVariables false
set_option linter.unusedSimpArgs false
set_option linter.unusedSectionVars false
theorem madeR_frok (n : Nat) (h1 : 1 ≤ n) (h4 : n ≤ 4) (F : Nat → Nat) : FrOk (madeR n F n) := ⟨by rw [madeR_len]; omega, fun w s h => by
  unfold madeR at h
  rw [List.getElem?_map] at h
  rw [madeR_len]
  obtain ⟨x, _, rfl⟩ := Option.map_eq_some_iff.1 h
  exact Nat.mod_lt _ (Nat.two_pow_pos n)⟩
theorem suits_all (rel : List Nat) (k : Nat) : suitsB false 0 rel k = true := by
  unfold suitsB
  rw [lackAll_zero]; rfl
theorem movF_fact (old : List Nat) (a b c : Nat) : fcsF (movF old (factL 0 [a, b, c])) = fcs 0 [movS old a, movS old b, movS old c] := by
  simp [movF, factL, fcsF, fcs]
/-- A model of the call's own, and no error. -/
def RetPv (W : World) (m : Mdl) (e : Ending) (w' : World) : Prop := ∃ (k : Nat) (z lp : Int) (r0 : Option Addr) (r1 r2 : Nat) (f0 : Option Addr) (f1 f2 : Nat) (u0 : Option Addr) (u1 u2 : Nat) (b0 : Option Addr) (b1 b2 : Nat),
  e = .returned (.tuple #[.agg #[.int .u8 (k : Int), .int .i64 z, .slice r0 r1 r2, .int .i64 lp, .slice f0 f1 f2, .slice u0 u1 u2, .slice b0 b1 b2], .int .i64 0]) ∧
    IsMv w' (.agg #[.int .u8 (k : Int), .int .i64 z, .slice r0 r1 r2, .int .i64 lp, .slice f0 f1 f2, .slice u0 u1 u2, .slice b0 b1 b2]) m ∧ Below W.heap.size W w'
/-- Part, where it answers. -/
theorem part_valv {W : World} {v : Value} {kd n : Nat} {rl : List Nat} {a b c wd : Nat} (hv : IsMv W v (mdl kd n rl [a, b, c])) (hok : (mdl kd n rl [a, b, c]).ok = true) (hro : FrOk rl) (hn : rl.length = n) (h1 : 1 ≤ n) (ha : a < 16) (hb : b < 16) (hc : c < 16) (hk : kd < 256) (hw : wd < n) :
    Calls Tryd.prog 30 #[v, .int .i64 (wd : Int)] W (RetPv W (mdl kd (oldS rl wd).length (relS rl (oldS rl wd)) [movS (oldS rl wd) a, movS (oldS rl wd) b, movS (oldS rl wd) c])) := by
  obtain ⟨k, z, lp, r0, r1, r2, f0, f1, f2, u0, u1, u2, b0, b1, b2, rfl, rfl, rfl, rfl, h5⟩ := hv
  have hr := h5.r
  have hlr : r1 = n := by have := hr.1; simp only [mdl, List.length_map] at this; omega
  subst hlr
  obtain ⟨g, o, rfl⟩ := hr.pos (by simp only []; omega)
  have hV : ∀ W', Below W.heap.size W W' → Calls Tryd.prog 18 #[.agg #[.int .u8 ((mdl kd r1 rl [a, b, c]).kind : Int), .int .i64 (mdl kd r1 rl [a, b, c]).size, .slice (some ⟨g, o, none⟩) r1 r2, .int .i64 (mdl kd r1 rl [a, b, c]).loop, .slice f0 f1 f2, .slice u0 u1 u2, .slice b0 b1 b2]] W' (RetW W' true) := fun W' hB => by
    have := validM W' (mdl kd r1 rl [a, b, c]) ⟨⟨some ⟨g, o, none⟩, r1, r2⟩, ⟨f0, f1, f2⟩, ⟨u0, u1, u2⟩, ⟨b0, b1, b2⟩⟩ (h5.below hB)
    rw [hok] at this
    exact this
  have hf1 : f1 = 3 := by have := h5.f.1; simp only [mdl, factL_len] at this; exact this
  subst hf1
  have hpo := part_ok hro (w := wd) (by omega)
  have := part_yes W kd r1 g o r2 ⟨f0, 3, f2⟩ ⟨u0, u1, u2⟩ ⟨b0, b1, b2⟩ rl (factL 0 [a, b, c]) wd hro hn h1 hr.z.r h5.f (by simp only []; omega) (fun i f hf => by
    have hi : i < 3 := by have := (List.getElem?_eq_some_iff.1 hf).1; simpa [factL_len] using this
    have e := nmK_fact [a, b, c] 0 i (by simpa using hi)
    have e2 : (factL 0 [a, b, c]).getD i (⟨#[]⟩, 0, 0) = f := by rw [List.getD_eq_getElem?_getD, hf]; rfl
    rw [e2] at e
    rw [e.2]
    refine ⟨rfl, [a, b, c].getD i 0, rfl, ?_⟩
    rcases (by omega : i = 0 ∨ i = 1 ∨ i = 2) with rfl | rfl | rfl
    · exact ha
    · exact hb
    · exact hc) hw hV
  refine this.mono ?_
  rintro e w' ⟨g', c', fa, fc, rfl, hB, ho1, ho2⟩
  rw [movF_fact] at ho2
  obtain ⟨fg, fc', e1, _, _⟩ := own_form9 ho2 (by simp [factL_len])
  injection e1 with e1 e2 e3
  subst e1
  have hmv := mv_own (kind := kd) (l := [movS (oldS rl wd) a, movS (oldS rl wd) b, movS (oldS rl wd) c]) hk ho1 (by simpa [factL_len] using ho2) (relS_len _ _) (by simp) ((oldS rl wd).length : Int)
  exact ⟨_, _, _, _, _, _, _, _, _, _, _, _, _, _, _, rfl, by simpa [factL_len, mdl] using hmv, hB⟩
/-- A model in its box, from its value. -/
theorem mb_at {W : World} {B k : Nat} {z lp : Int} {r0 : Option Addr} {r1 r2 : Nat} {f0 : Option Addr} {f1 f2 : Nat} {u0 : Option Addr} {u1 u2 : Nat} {b0 : Option Addr} {b1 b2 : Nat} {m : Mdl}
    (hb : W.heap[B]? = some (.cells #[.int .u8 (k : Int), .int .i64 z, .slice r0 r1 r2, .int .i64 lp, .slice f0 f1 f2, .slice u0 u1 u2, .slice b0 b1 b2] 30 (0, 0)))
    (h : IsMv W (.agg #[.int .u8 (k : Int), .int .i64 z, .slice r0 r1 r2, .int .i64 lp, .slice f0 f1 f2, .slice u0 u1 u2, .slice b0 b1 b2]) m) : MB W B m := by
  obtain ⟨hh, h1, h2⟩ := mv_of h
  injection h1 with h1
  have e := congrArg Array.toList h1
  simp only [List.cons.injEq, Value.int.injEq, Value.slice.injEq, true_and, and_true, SL.v] at e
  obtain ⟨e0, e1, ⟨e2, e3, e4⟩, e5, ⟨e6, e7, e8⟩, ⟨e9, e10, e11⟩, ⟨e12, e13, e14⟩⟩ := e
  obtain ⟨⟨ra, rn, rc⟩, ⟨fa, fn, fc⟩, ⟨ua, un, uc⟩, ⟨ba, bn, bc⟩⟩ := hh
  simp only [] at e2 e3 e4 e6 e7 e8 e9 e10 e11 e12 e13 e14
  subst e2 e3 e4 e6 e7 e8 e9 e10 e11 e12 e13 e14
  exact ⟨k, z, lp, _, _, _, _, _, _, _, _, _, _, _, _, hb, by omega, e1.symm, e5.symm, h2⟩
end Go.Proofs.YtflmllablfjfeaaDoor
