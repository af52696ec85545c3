/- Frame: the frames that Forced and Made make, as data. No program in sight. -/
import Derived.Test.YtflmllablfjfeaaDoorPlG
namespace Go.FR
open Go
set_option linter.unusedVariables false
set_option linter.unusedSimpArgs false
set_option linter.unusedSectionVars false
/-- The row of w behind k worlds. -/
def fRow (lw w : Nat) (rel : List Nat) : Nat → Nat
  | 0 => 1 <<< w
  | k + 1 => if w = 0 ∨ lw.testBit (w + 1 + k) = true then fRow lw w rel k ||| rel.getD (w + 1 + k) 0 else fRow lw w rel k
/-- The rows of the last k worlds. -/
def fRel (n : Nat) (l : Nat → Nat) : Nat → List Nat
  | 0 => List.replicate n 0
  | k + 1 => (fRel n l k).set (n - 1 - k) (fRow (l (n - 1 - k)) (n - 1 - k) (fRel n l k) k)
def forcB (rel : List Nat) : Bool :=
  decide (rel.length ≤ 4) && (List.range 4).all fun w => decide (rel.getD w 0 < 2 ^ rel.length) && (decide (rel.length ≤ w) || (rel.getD w 0).testBit w) &&
    (List.range 4).all fun u => !(rel.getD w 0).testBit u || (List.range 4).all fun v => !(rel.getD u 0).testBit v || (rel.getD w 0).testBit v
theorem getD_get {rel : List Nat} {w s : Nat} (h : rel[w]? = some s) : rel.getD w 0 = s := by rw [List.getD_eq_getElem?_getD, h]; rfl
theorem frok_of {rel : List Nat} (hl : rel.length ≤ 4) (h : ∀ w, w < 4 → rel.getD w 0 < 2 ^ rel.length) : FrOk rel :=
  ⟨hl, fun w s hs => by
    have hw := (List.getElem?_eq_some_iff.1 hs).1
    rw [← getD_get hs]
    exact h w (by omega)⟩
theorem forc_of {rel : List Nat} (h : forcB rel = true) : Forc rel := by
  unfold forcB at h
  simp only [Bool.and_eq_true, decide_eq_true_iff, List.all_eq_true, List.mem_range, Bool.or_eq_true, Bool.not_eq_true'] at h
  obtain ⟨hl, h⟩ := h
  have ho : FrOk rel := frok_of hl fun w hw => (h w hw).1.1
  refine ⟨ho, fun w hw => ?_, fun w u v h1 h2 => ?_⟩
  · rcases (h w (by omega)).1.2 with h1 | h1
    · omega
    · exact h1
  · have hw := (ho.see h1).1
    have hu := (ho.see h1).2
    have hv := (ho.see h2).2
    rcases (h w (by omega)).2 u (by omega) with h3 | h3
    · rw [h1] at h3; cases h3
    · rcases h3 v (by omega) with h4 | h4
      · rw [h2] at h4; cases h4
      · exact h4
theorem fRel_len (n : Nat) (l : Nat → Nat) : ∀ k, (fRel n l k).length = n
  | 0 => by simp [fRel]
  | k + 1 => by simp [fRel, fRel_len n l k]
/-- The twelve relations that Forced makes. -/
theorem forced_forc (n : Nat) (h1 : 1 ≤ n) (h4 : n ≤ 4) (l : Nat → Nat) : Forc (fRel n l n) ∧ (fRel n l n).getD 0 0 = 2 ^ n - 1 := by
  rcases (by omega : n = 1 ∨ n = 2 ∨ n = 3 ∨ n = 4) with rfl | rfl | rfl | rfl
  · exact ⟨forc_of (by simp [fRel, fRow]; decide), by simp [fRel, fRow]⟩
  · exact ⟨forc_of (by simp [fRel, fRow]; decide), by simp [fRel, fRow]⟩
  · rcases e : (l 1).testBit 2 with _ | _ <;> exact ⟨forc_of (by simp [fRel, fRow, e]; decide), by simp [fRel, fRow, e]⟩
  · rcases e : (l 1).testBit 2 with _ | _ <;> rcases e2 : (l 1).testBit 3 with _ | _ <;> rcases e3 : (l 2).testBit 3 with _ | _ <;> exact ⟨forc_of (by simp [fRel, fRow, e, e2, e3]; decide), by simp [fRel, fRow, e, e2, e3]⟩
/-- What the worlds below k of a mask see. -/
def upK (rel : List Nat) (m : Nat) : Nat → Nat
  | 0 => 0
  | k + 1 => if m.testBit k = true then upK rel m k ||| rel.getD k 0 else upK rel m k
theorem upK_test (rel : List Nat) (m v : Nat) : ∀ k, (upK rel m k).testBit v = true ↔ ∃ u, u < k ∧ m.testBit u = true ∧ (rel.getD u 0).testBit v = true
  | 0 => by simp [upK]
  | k + 1 => by
    have ih := upK_test rel m v k
    unfold upK
    by_cases h : m.testBit k = true
    · rw [if_pos h, Nat.testBit_or, Bool.or_eq_true, ih]
      constructor
      · rintro (⟨u, h1, h2⟩ | h1)
        · exact ⟨u, by omega, h2⟩
        · exact ⟨k, by omega, h, h1⟩
      · rintro ⟨u, h1, h2, h3⟩
        by_cases e : u = k
        · subst e; exact .inr h3
        · exact .inl ⟨u, by omega, h2, h3⟩
    · rw [if_neg h, ih]
      constructor
      · rintro ⟨u, h1, h2⟩; exact ⟨u, by omega, h2⟩
      · rintro ⟨u, h1, h2, h3⟩
        by_cases e : u = k
        · subst e; exact absurd h2 h
        · exact ⟨u, by omega, h2, h3⟩
theorem upK_up {rel : List Nat} (hF : Forc rel) (m k : Nat) : UpM rel (upK rel m k) := fun w u hw hs => by
  rw [upK_test] at hw ⊢
  obtain ⟨x, h1, h2, h3⟩ := hw
  exact ⟨x, h1, h2, hF.trans x w u h3 hs⟩
theorem upK_lt {rel : List Nat} (hr : FrOk rel) (m k : Nat) : upK rel m k < 2 ^ rel.length := lt_of_bits fun v hv => by
  rw [upK_test] at hv
  obtain ⟨u, _, _, h⟩ := hv
  exact (hr.see h).2
/-- The facts P, Q and R. -/
def look3 (a b c : Nat) (s : ByteArray) : Option Nat := if s = pqr 0 then some a else if s = pqr 1 then some b else if s = pqr 2 then some c else none
theorem look3_all {a b c : Nat} {R : Nat → Prop} (ha : R a) (hb : R b) (hc : R c) : ∀ s m, look3 a b c s = some m → R m := by
  intro s m h
  unfold look3 at h
  split at h
  · cases h; exact ha
  · split at h
    · cases h; exact hb
    · split at h
      · cases h; exact hc
      · cases h
mutual
theorem lack_pln {modal : Bool} (a b c : Nat) : ∀ f, plnF modal f = true → lackF (look3 a b c) f = false
  | .mk op nm args subs, h => by
    unfold plnF at h
    rw [Bool.and_eq_true] at h
    have h2 := lackL_pln a b c subs h.2
    unfold lackF
    rw [h2.1, h2.2]
    have h1 := h.1
    simp only [Bool.and_eq_true, Bool.or_eq_true, decide_eq_true_iff] at h1
    by_cases e : op = 1
    · subst e
      have hn : nm = pqr 0 ∨ nm = pqr 1 ∨ nm = pqr 2 := by
        rcases h1.2 with (((⟨⟨_, h3⟩, _⟩ | ⟨⟨h3, _⟩, _⟩) | ⟨⟨h3, _⟩, _⟩) | ⟨⟨h3, _⟩, _⟩) | ⟨⟨⟨_, h3⟩, _⟩, _⟩
        · rcases h3 with (h3 | h3) | h3
          · exact .inl h3
          · exact .inr (.inl h3)
          · exact .inr (.inr h3)
        all_goals omega
      have d1 : ¬ pqr 1 = pqr 0 := by decide
      have d2 : ¬ pqr 2 = pqr 0 := by decide
      have d3 : ¬ pqr 2 = pqr 1 := by decide
      rcases hn with rfl | rfl | rfl <;> simp [look3, d1, d2, d3]
    · simp [e]
theorem lackL_pln {modal : Bool} (a b c : Nat) : ∀ l, plnL modal l = true → (lackL (look3 a b c) l).1 = false ∧ (lackL (look3 a b c) l).2 = false
  | [], _ => ⟨rfl, rfl⟩
  | f :: r, h => by
    unfold plnL at h
    rw [Bool.and_eq_true] at h
    unfold lackL
    exact ⟨lack_pln a b c f h.1, (lackL_pln a b c r h.2).1⟩
end
mutual
theorem ops_pln {modal : Bool} : ∀ f, plnF modal f = true → opsF modal f = true
  | .mk op nm args subs, h => by
    unfold plnF at h
    rw [Bool.and_eq_true] at h
    have h2 := opsL_pln subs h.2
    unfold opsF
    rw [h2]
    have h1 := h.1
    simp only [Bool.and_eq_true, Bool.or_eq_true, decide_eq_true_iff] at h1
    rw [h1.1]
    rcases h1.2 with (((⟨⟨h3, _⟩, _⟩ | ⟨⟨h3, _⟩, _⟩) | ⟨⟨h3, _⟩, _⟩) | ⟨⟨h3, _⟩, _⟩) | ⟨⟨⟨hm, h3⟩, _⟩, _⟩
    · subst h3; simp
    · subst h3; simp
    · subst h3; simp
    · have : 1 ≤ op ∧ op ≤ 7 := by omega
      simp [this]
    · subst hm; rcases h3 with rfl | rfl <;> simp
theorem opsL_pln {modal : Bool} : ∀ l, plnL modal l = true → opsL modal l = true
  | [], _ => rfl
  | f :: r, h => by
    unfold plnL at h
    rw [Bool.and_eq_true] at h
    unfold opsL
    rw [ops_pln f h.1, opsL_pln r h.2]; rfl
end
end Go.FR
