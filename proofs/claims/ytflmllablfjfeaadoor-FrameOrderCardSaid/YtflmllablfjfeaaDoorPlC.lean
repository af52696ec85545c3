/- Frame: the plain law of what is forced. No program in sight. -/
import Derived.Test.YtflmllablfjfeaaDoorPlB
namespace Go.FR
open Go
set_option linter.unusedVariables false
set_option linter.unusedSimpArgs false
/-- A frame of forcing. -/
structure Forc (rel : List Nat) : Prop where
  ok : FrOk rel
  refl : ∀ w, w < rel.length → (rel.getD w 0).testBit w = true
  trans : ∀ w u v, (rel.getD w 0).testBit u = true → (rel.getD u 0).testBit v = true → (rel.getD w 0).testBit v = true
/-- A mask that is kept by what is seen. -/
def UpM (rel : List Nat) (m : Nat) : Prop := ∀ w u, m.testBit w = true → (rel.getD w 0).testBit u = true → m.testBit u = true
def LookUp (rel : List Nat) (look : ByteArray → Option Nat) : Prop := ∀ s m, look s = some m → UpM rel m
mutual
/-- Operators of a kind in all parts, and no arguments. -/
def opsF (modal : Bool) : Fm → Bool
  | .mk op _ args subs => args.isEmpty && (decide (1 ≤ op ∧ op ≤ 7) || (modal && (decide (op = 10) || decide (op = 11)))) && opsL modal subs
def opsL (modal : Bool) : List Fm → Bool
  | [] => true
  | f :: r => opsF modal f && opsL modal r
end
theorem FrOk.lt32 {rel : List Nat} (h : FrOk rel) (w : Nat) : rel.getD w 0 < 4294967296 := by have := h.get w; omega
theorem one_shl_lt {w : Nat} (h : w < 4) : (1 <<< w : Nat) < 16 := by
  rw [Nat.one_shiftLeft]
  have := Nat.pow_le_pow_right (n := 2) (by omega) (show w ≤ 3 by omega)
  omega
/-- What a formula is at a world, one world at a time. -/
theorem node_test {force : Bool} {rel : List Nat} {look : ByteArray → Option Nat} {op : Nat} {nm : ByteArray} {a b w : Nat} (h1 : op ≠ 1) : (nodeS force rel look op nm a b).testBit w = (decide (w < rel.length) && holdsB force op w (rel.getD w 0) a b) := by
  unfold nodeS
  rw [if_neg h1, maskN_test]
/-- What the worlds are that count at w. -/
def reachB (force : Bool) (rel : List Nat) (w : Nat) : Nat := if force then rel.getD w 0 else 1 <<< w
theorem reach_lt {force : Bool} {rel : List Nat} (hr : FrOk rel) {w : Nat} (hw : w < rel.length) : reachB force rel w < 16 := by
  unfold reachB
  split
  · exact hr.get w
  · exact one_shl_lt (by have := hr.len; omega)
theorem holds_not {force : Bool} {rel : List Nat} {a b w : Nat} : holdsB force 3 w (rel.getD w 0) a b = true ↔ ∀ u, (reachB force rel w).testBit u = true → a.testBit u = false := by
  show decide (reachB force rel w &&& a = 0) = true ↔ _
  rw [decide_eq_true_iff, and_zero]
theorem holds_imp {force : Bool} {rel : List Nat} {a b w : Nat} (hr : FrOk rel) (hw : w < rel.length) (ha : a < 16) (hb : b < 16) : holdsB force 6 w (rel.getD w 0) a b = true ↔ ∀ u, (reachB force rel w).testBit u = true → a.testBit u = true → b.testBit u = true := by
  show decide (andn (reachB force rel w &&& a) b = 0) = true ↔ _
  have hx := reach_lt (force := force) hr hw
  have hy : reachB force rel w &&& a < 16 := Nat.lt_of_le_of_lt Nat.and_le_left hx
  rw [decide_eq_true_iff, andn_zero (by omega) (by omega)]
  constructor
  · intro h u hu hau
    exact h u (by rw [Nat.testBit_and, hu, hau]; rfl)
  · intro h u hu
    rw [Nat.testBit_and, Bool.and_eq_true] at hu
    exact h u hu.1 hu.2
theorem holds_iff {force : Bool} {rel : List Nat} {a b w : Nat} : holdsB force 7 w (rel.getD w 0) a b = true ↔ ∀ u, (reachB force rel w).testBit u = true → a.testBit u = b.testBit u := by
  show decide (reachB force rel w &&& (a ^^^ b) = 0) = true ↔ _
  rw [decide_eq_true_iff, and_zero]
  constructor
  · intro h u hu
    have := h u hu
    rw [Nat.testBit_xor] at this
    cases ha : a.testBit u <;> cases hb : b.testBit u <;> simp_all
  · intro h u hu
    rw [Nat.testBit_xor, h u hu]
    simp
theorem holds_box {force : Bool} {rel : List Nat} {a b w : Nat} (hr : FrOk rel) (ha : a < 16) : holdsB force 10 w (rel.getD w 0) a b = true ↔ ∀ u, (rel.getD w 0).testBit u = true → a.testBit u = true := by
  show decide (andn (rel.getD w 0) a = 0) = true ↔ _
  rw [decide_eq_true_iff, andn_zero (hr.lt32 w) (by omega)]
theorem holds_dia {force : Bool} {rel : List Nat} {a b w : Nat} : holdsB force 11 w (rel.getD w 0) a b = true ↔ ¬ ∀ u, (rel.getD w 0).testBit u = true → a.testBit u = false := by
  show decide (rel.getD w 0 &&& a ≠ 0) = true ↔ _
  rw [decide_eq_true_iff, Ne, and_zero]
theorem holds_and {force : Bool} {a b w s : Nat} : holdsB force 4 w s a b = (a.testBit w && b.testBit w) := by
  show (a &&& b).testBit w = _
  rw [Nat.testBit_and]
theorem holds_or {force : Bool} {a b w s : Nat} : holdsB force 5 w s a b = (a.testBit w || b.testBit w) := by
  show (a ||| b).testBit w = _
  rw [Nat.testBit_or]
theorem opsL_two {modal : Bool} {look : ByteArray → Option Nat} {rel : List Nat} {P : Nat → Prop} (h0 : P 0) (force : Bool) : ∀ subs : List Fm, (∀ f ∈ subs, P (semF force rel look f)) → P (semL force rel look subs).1 ∧ P (semL force rel look subs).2
  | [], _ => ⟨h0, h0⟩
  | [f], h => ⟨h f (by simp), h0⟩
  | f :: g :: r, h => ⟨h f (by simp), h g (by simp)⟩
theorem opsL_mem {modal : Bool} : ∀ {subs : List Fm}, opsL modal subs = true → ∀ f ∈ subs, opsF modal f = true
  | [], _, f, hf => by cases hf
  | g :: r, h, f, hf => by
    unfold opsL at h
    rw [Bool.and_eq_true] at h
    rcases List.mem_cons.1 hf with rfl | hf
    · exact h.1
    · exact opsL_mem h.2 f hf
theorem upM_zero (rel : List Nat) : UpM rel 0 := fun w u h => by simp at h
theorem up_node {rel : List Nat} {look : ByteArray → Option Nat} (hF : Forc rel) (hlk : LookOk rel.length look) (hup : LookUp rel look) {op : Nat} (nm : ByteArray) {a b : Nat} (h1 : 1 ≤ op) (h7 : op ≤ 7) (ha : UpM rel a) (hb : UpM rel b) (la : a < 16) (lb : b < 16) : UpM rel (nodeS true rel look op nm a b) := by
  by_cases e1 : op = 1
  · unfold nodeS
    rw [if_pos e1]
    rcases e : look nm with _ | m
    · exact upM_zero rel
    · exact hup nm m e
  · intro w u hw hs
    rw [node_test e1, Bool.and_eq_true, decide_eq_true_iff] at hw ⊢
    obtain ⟨hwl, hh⟩ := hw
    have hul : u < rel.length := by
      have hx : rel[w]? = some (rel.getD w 0) := by rw [List.getD_eq_getElem?_getD, List.getElem?_eq_getElem hwl]; rfl
      exact bits_lt (hF.ok.lt w _ hx) hs
    refine ⟨hul, ?_⟩
    have sub : ∀ v, (rel.getD u 0).testBit v = true → (rel.getD w 0).testBit v = true := fun v hv => hF.trans w u v hs hv
    rcases (by omega : op = 2 ∨ op = 3 ∨ op = 4 ∨ op = 5 ∨ op = 6 ∨ op = 7) with rfl | rfl | rfl | rfl | rfl | rfl
    · cases hh
    · rw [holds_not] at hh ⊢
      exact fun v hv => hh v (sub v hv)
    · rw [holds_and, Bool.and_eq_true] at hh ⊢
      exact ⟨ha w u hh.1 hs, hb w u hh.2 hs⟩
    · rw [holds_or, Bool.or_eq_true] at hh ⊢
      exact hh.imp (fun h => ha w u h hs) (fun h => hb w u h hs)
    · rw [holds_imp hF.ok hwl la lb] at hh
      rw [holds_imp hF.ok hul la lb]
      exact fun v hv => hh v (sub v hv)
    · rw [holds_iff] at hh ⊢
      exact fun v hv => hh v (sub v hv)
mutual
/-- What is true at a world is true at all that it sees. -/
theorem persist {rel : List Nat} {look : ByteArray → Option Nat} (hF : Forc rel) (hlk : LookOk rel.length look) (hup : LookUp rel look) : ∀ f, opsF false f = true → UpM rel (semF true rel look f)
  | .mk op nm args subs, h => by
    unfold opsF at h
    simp only [Bool.and_eq_true, Bool.or_eq_true, decide_eq_true_iff, Bool.false_and, Bool.false_eq_true, or_false] at h
    unfold semF
    have hs := persistL hF hlk hup subs h.2
    have hl := opsL_two (modal := false) (P := fun m => m < 16) (rel := rel) (look := look) (by omega) true subs (fun f _ => semF_16 hF.ok hlk f)
    exact up_node hF hlk hup nm h.1.2.1 h.1.2.2 hs.1 hs.2 hl.1 hl.2
theorem persistL {rel : List Nat} {look : ByteArray → Option Nat} (hF : Forc rel) (hlk : LookOk rel.length look) (hup : LookUp rel look) : ∀ l, opsL false l = true → UpM rel (semL true rel look l).1 ∧ UpM rel (semL true rel look l).2
  | [], _ => ⟨upM_zero _, upM_zero _⟩
  | f :: r, h => by
    unfold opsL at h
    rw [Bool.and_eq_true] at h
    unfold semL
    exact ⟨persist hF hlk hup f h.1, (persistL hF hlk hup r h.2).1⟩
end
end Go.FR
