/- Frame: the plain law of closing a relation. No program in sight. -/
import Derived.Test.YtflmllablfjfeaaDoorPlE
namespace Go.FR
open Go
set_option linter.unusedVariables false
set_option linter.unusedSimpArgs false
set_option linter.unusedSectionVars false
/-- What w sees in two steps, the first one to a world below k. -/
def transK (rel : List Nat) (w : Nat) : Nat → Nat
  | 0 => 0
  | k + 1 => if (rel.getD w 0).testBit k = true then transK rel w k ||| rel.getD k 0 else transK rel w k
theorem transK_test (rel : List Nat) (w v : Nat) : ∀ k, (transK rel w k).testBit v = true ↔ ∃ u, u < k ∧ (rel.getD w 0).testBit u = true ∧ (rel.getD u 0).testBit v = true
  | 0 => by simp [transK]
  | k + 1 => by
    have ih := transK_test rel w v k
    unfold transK
    by_cases h : (rel.getD w 0).testBit k = true
    · rw [if_pos h, Nat.testBit_or, Bool.or_eq_true, ih]
      constructor
      · rintro (⟨u, h1, h2⟩ | h1)
        · exact ⟨u, by omega, h2⟩
        · exact ⟨k, by omega, h, h1⟩
      · rintro ⟨u, h1, h2, h3⟩
        by_cases e : u = k
        · subst e; exact .inr h3
        · exact .inl ⟨u, by omega, h2, h3⟩
    · rw [if_neg h, ih]
      constructor
      · rintro ⟨u, h1, h2⟩; exact ⟨u, by omega, h2⟩
      · rintro ⟨u, h1, h2, h3⟩
        by_cases e : u = k
        · subst e; exact absurd h2 h
        · exact ⟨u, by omega, h2, h3⟩
/-- Which worlds below k see w. -/
def symK (rel : List Nat) (w k : Nat) : Nat := maskN k fun u => (rel.getD u 0).testBit w
def need1 (c w : Nat) : Nat := if c.testBit 0 = true then 1 <<< w else 0
def need2 (c : Nat) (rel : List Nat) (w : Nat) : Nat := if c.testBit 1 = true then need1 c w ||| transK rel w rel.length else need1 c w
def need3 (c : Nat) (rel : List Nat) (w : Nat) : Nat := if c.testBit 2 = true then need2 c rel w ||| symK rel w rel.length else need2 c rel w
/-- What w has to see by the first k conditions of a mask. -/
def needK (c : Nat) (rel : List Nat) (w k : Nat) : Nat := if k = 0 then 0 else if k = 1 then need1 c w else if k = 2 then need2 c rel w else need3 c rel w
def lackS (c : Nat) (rel : List Nat) (w : Nat) : Nat := if c = 0 then 0 else andn (needK c rel w 3) (rel.getD w 0)
theorem need_test (c : Nat) (rel : List Nat) (w v : Nat) : (needK c rel w 3).testBit v = true ↔ (c.testBit 0 = true ∧ v = w) ∨ (c.testBit 1 = true ∧ (transK rel w rel.length).testBit v = true) ∨ (c.testBit 2 = true ∧ (symK rel w rel.length).testBit v = true) := by
  have e1 : (need1 c w).testBit v = true ↔ c.testBit 0 = true ∧ v = w := by
    unfold need1
    split
    · rename_i h; rw [shl_test, decide_eq_true_iff]; simp [h]
    · rename_i h; simp [h]
  have e2 : (need2 c rel w).testBit v = true ↔ (c.testBit 0 = true ∧ v = w) ∨ (c.testBit 1 = true ∧ (transK rel w rel.length).testBit v = true) := by
    unfold need2
    split
    · rename_i h; rw [Nat.testBit_or, Bool.or_eq_true, e1]; simp [h]
    · rename_i h; rw [e1]; simp [h]
  show (need3 c rel w).testBit v = true ↔ _
  unfold need3
  split
  · rename_i h; rw [Nat.testBit_or, Bool.or_eq_true, e2]; simp [h, or_assoc]
  · rename_i h; rw [e2]; simp [h]
/-- A relation fits the conditions at a world. -/
def FitsAt (c : Nat) (rel : List Nat) (w : Nat) : Prop :=
  (c.testBit 0 = true → (rel.getD w 0).testBit w = true) ∧
  (c.testBit 1 = true → ∀ u v, (rel.getD w 0).testBit u = true → (rel.getD u 0).testBit v = true → (rel.getD w 0).testBit v = true) ∧
  (c.testBit 2 = true → ∀ u, (rel.getD u 0).testBit w = true → (rel.getD w 0).testBit u = true)
def FitsP (c : Nat) (rel : List Nat) : Prop := ∀ w, w < rel.length → FitsAt c rel w
theorem transK_lt {rel : List Nat} (hr : FrOk rel) (w k : Nat) : transK rel w k < 2 ^ rel.length := lt_of_bits fun v hv => by
  rw [transK_test] at hv
  obtain ⟨u, _, _, h⟩ := hv
  exact (hr.see h).2
theorem need_lt {c : Nat} {rel : List Nat} (hr : FrOk rel) {w : Nat} (hw : w < rel.length) : needK c rel w 3 < 2 ^ rel.length := lt_of_bits fun v hv => by
  rw [need_test] at hv
  rcases hv with ⟨_, rfl⟩ | ⟨_, h⟩ | ⟨_, h⟩
  · exact hw
  · exact bits_lt (transK_lt hr _ _) h
  · exact bits_lt (maskN_lt _ _) h
theorem lack_zero {c : Nat} {rel : List Nat} (hr : FrOk rel) {w : Nat} (hw : w < rel.length) : lackS c rel w = 0 ↔ FitsAt c rel w := by
  unfold lackS
  by_cases hc : c = 0
  · subst hc
    simp [FitsAt]
  · rw [if_neg hc]
    have h1 := need_lt (c := c) hr hw
    have hp := pow_le4 hr.len
    rw [andn_zero (by omega) (hr.lt32 w)]
    unfold FitsAt
    constructor
    · intro h
      refine ⟨fun h0 => h w (by rw [need_test]; exact .inl ⟨h0, rfl⟩), fun h1 u v hu hv => h v (by rw [need_test]; exact .inr (.inl ⟨h1, by rw [transK_test]; exact ⟨u, (hr.see hu).2, hu, hv⟩⟩)), fun h2 u hu => h u (by rw [need_test]; exact .inr (.inr ⟨h2, by unfold symK; rw [maskN_test, hu, Bool.and_true]; exact decide_eq_true (hr.see hu).1⟩))⟩
    · rintro ⟨h0, h1, h2⟩ v hv
      rw [need_test] at hv
      rcases hv with ⟨hc, rfl⟩ | ⟨hc, hv⟩ | ⟨hc, hv⟩
      · exact h0 hc
      · rw [transK_test] at hv
        obtain ⟨u, _, hu, hv⟩ := hv
        exact h1 hc u v hu hv
      · unfold symK at hv
        rw [maskN_test, Bool.and_eq_true] at hv
        exact h2 hc v hv.2
theorem lack_bits {c : Nat} {rel : List Nat} (hr : FrOk rel) {w v : Nat} (hw : w < rel.length) (h : (lackS c rel w).testBit v = true) : (needK c rel w 3).testBit v = true ∧ (rel.getD w 0).testBit v = false := by
  unfold lackS at h
  split at h
  · simp at h
  · have h1 := need_lt (c := c) hr hw
    have hp := pow_le4 hr.len
    rw [andn_test (by omega) (hr.lt32 w)] at h
    simpa using h
/-- One relation in another one. -/
def SubR (a b : List Nat) : Prop := ∀ w u, (a.getD w 0).testBit u = true → (b.getD w 0).testBit u = true
theorem SubR.refl (a : List Nat) : SubR a a := fun _ _ h => h
theorem SubR.trans {a b c : List Nat} (h : SubR a b) (k : SubR b c) : SubR a c := fun w u x => k w u (h w u x)
theorem SubR.antisymm {a b : List Nat} (hl : a.length = b.length) (h : SubR a b) (k : SubR b a) : a = b := by
  apply List.ext_getElem hl
  intro i h1 h2
  have e1 : a.getD i 0 = a[i] := by rw [List.getD_eq_getElem?_getD, List.getElem?_eq_getElem h1]; rfl
  have e2 : b.getD i 0 = b[i] := by rw [List.getD_eq_getElem?_getD, List.getElem?_eq_getElem h2]; rfl
  apply Nat.eq_of_testBit_eq
  intro u
  rw [Bool.eq_iff_iff, ← e1, ← e2]
  exact ⟨h i u, k i u⟩
/-- On the way to the closure of rel. -/
structure CloI (c : Nat) (rel cur : List Nat) : Prop where
  len : cur.length = rel.length
  ok : FrOk cur
  sub : SubR rel cur
  least : ∀ S : List Nat, S.length = rel.length → FrOk S → FitsP c S → SubR rel S → SubR cur S
theorem CloI.start {c : Nat} {rel : List Nat} (h : FrOk rel) : CloI c rel rel := ⟨rfl, h, SubR.refl _, fun S _ _ _ h => h⟩
theorem getD_setD (l : List Nat) (w x i : Nat) (hw : w < l.length) : (l.set w x).getD i 0 = if i = w then x else l.getD i 0 := by
  rw [List.getD_eq_getElem?_getD, List.getD_eq_getElem?_getD, List.getElem?_set]
  by_cases h : w = i
  · subst h; simp [hw]
  · have h2 : ¬ i = w := fun e => h e.symm
    simp [h, h2]
theorem CloI.step {c : Nat} {rel cur : List Nat} (h : CloI c rel cur) {w : Nat} (hw : w < cur.length) : CloI c rel (cur.set w (cur.getD w 0 ||| lackS c cur w)) := by
  have hn := need_lt (c := c) h.ok hw
  have hlk : lackS c cur w < 2 ^ cur.length := by
    refine lt_of_bits fun v hv => ?_
    exact bits_lt hn (lack_bits h.ok hw hv).1
  have hcw : cur.getD w 0 < 2 ^ cur.length := by
    have hx : cur[w]? = some (cur.getD w 0) := by rw [List.getD_eq_getElem?_getD, List.getElem?_eq_getElem hw]; rfl
    exact h.ok.lt w _ hx
  refine ⟨by rw [List.length_set]; exact h.len, ⟨by rw [List.length_set]; exact h.ok.len, fun i s hs => ?_⟩, fun i u hu => ?_, fun S hl hS hf hs i u hu => ?_⟩
  · rw [List.length_set]
    rw [List.getElem?_set] at hs
    split at hs
    · first
        | (cases hs; exact Nat.or_lt_two_pow hcw hlk)
        | (split at hs
           · cases hs; exact Nat.or_lt_two_pow hcw hlk
           · cases hs)
    · exact h.ok.lt i s hs
  · rw [getD_setD _ _ _ _ hw]
    split
    · rename_i e; subst e
      rw [Nat.testBit_or, h.sub _ u hu]; rfl
    · exact h.sub i u hu
  · have hb := h.least S hl hS hf hs
    rw [getD_setD _ _ _ _ hw] at hu
    split at hu
    · rename_i e; subst e
      rw [Nat.testBit_or, Bool.or_eq_true] at hu
      rcases hu with hu | hu
      · exact hb _ _ hu
      · have h2 := (lack_bits h.ok hw hu).1
        have hf := hf i (by rw [hl, ← h.len]; exact hw)
        rw [need_test] at h2
        rcases h2 with ⟨hc, rfl⟩ | ⟨hc, hv⟩ | ⟨hc, hv⟩
        · exact hf.1 hc
        · rw [transK_test] at hv
          obtain ⟨x, _, h3, h4⟩ := hv
          exact hf.2.1 hc x u (hb _ _ h3) (hb _ _ h4)
        · unfold symK at hv
          rw [maskN_test, Bool.and_eq_true] at hv
          exact hf.2.2 hc u (hb _ _ hv.2)
    · exact hb i u hu
/-- The closure of a relation. -/
structure CloP (c : Nat) (rel out : List Nat) : Prop where
  i : CloI c rel out
  fits : FitsP c out
theorem CloP.unique {c : Nat} {rel a b : List Nat} (h : CloP c rel a) (k : CloP c rel b) : a = b :=
  SubR.antisymm (h.i.len.trans k.i.len.symm) (h.i.least b k.i.len k.i.ok k.fits k.i.sub) (k.i.least a h.i.len h.i.ok h.fits h.i.sub)
theorem CloP.of_fits {c : Nat} {rel : List Nat} (h : FrOk rel) (hf : FitsP c rel) : CloP c rel rel := ⟨.start h, hf⟩
theorem or_gt {a b : Nat} (hb : b ≠ 0) (h : ∀ u, b.testBit u = true → a.testBit u = false) : a < a ||| b := by
  have h1 : a ≤ a ||| b := Nat.left_le_or
  rcases Nat.lt_or_ge a (a ||| b) with h2 | h2
  · exact h2
  · exfalso
    have e : a ||| b = a := Nat.le_antisymm h2 h1
    apply hb
    apply Nat.eq_of_testBit_eq
    intro u
    rw [Nat.zero_testBit]
    rcases hu : b.testBit u with _ | _
    · rfl
    · have h3 := congrArg (fun x => Nat.testBit x u) e
      simp only [Nat.testBit_or, hu, Bool.or_true] at h3
      rw [h u hu] at h3; cases h3
theorem sum_set : ∀ (l : List Nat) (w x : Nat), w < l.length → (l.set w x).sum + l.getD w 0 = l.sum + x
  | [], w, x, h => by simp at h
  | y :: l, 0, x, h => by simp; omega
  | y :: l, w + 1, x, h => by
    have := sum_set l w x (by simpa using h)
    simp only [List.set_cons_succ, List.sum_cons, List.getD_cons_succ] at this ⊢
    omega
theorem sum_le {n : Nat} : ∀ (l : List Nat), (∀ x ∈ l, x ≤ n) → l.sum ≤ l.length * n
  | [], _ => by simp
  | y :: l, h => by
    have h1 := sum_le l (fun x hx => h x (List.mem_cons_of_mem _ hx))
    have h2 := h y (by simp)
    simp only [List.sum_cons, List.length_cons, Nat.add_mul]
    omega
theorem FrOk.sum_le {rel : List Nat} (h : FrOk rel) : rel.sum ≤ 64 := by
  have h1 := FR.sum_le (n := 16) rel (fun x hx => by
    obtain ⟨i, hi⟩ := List.mem_iff_getElem?.1 hx
    have := h.lt i x hi
    have := pow_le4 h.len
    omega)
  have := h.len
  omega
theorem sum_step {c : Nat} {cur : List Nat} (h : FrOk cur) {w : Nat} (hw : w < cur.length) (hl : lackS c cur w ≠ 0) : cur.sum < (cur.set w (cur.getD w 0 ||| lackS c cur w)).sum := by
  have h1 := sum_set cur w (cur.getD w 0 ||| lackS c cur w) hw
  have h2 := or_gt (a := cur.getD w 0) hl (fun u hu => (lack_bits h hw hu).2)
  omega
end Go.FR
