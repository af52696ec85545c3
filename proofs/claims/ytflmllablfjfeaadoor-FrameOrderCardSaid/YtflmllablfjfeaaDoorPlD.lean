/- Frame: the plain laws of FramePersists, FrameForces and FrameModal. No program in sight. -/
import Derived.Test.YtflmllablfjfeaaDoorPlC
namespace Go.FR
open Go
set_option linter.unusedVariables false
set_option linter.unusedSimpArgs false
set_option linter.unusedSectionVars false
section
variable {force : Bool} {rel : List Nat} {look : ByteArray → Option Nat}
theorem sem_one (op : Nat) (f : Fm) : semF force rel look (Op1 op f) = nodeS force rel look op ⟨#[]⟩ (semF force rel look f) 0 := by
  unfold Op1
  simp only [semF, semL]
theorem sem_two (op : Nat) (f g : Fm) : semF force rel look (Op2 op f g) = nodeS force rel look op ⟨#[]⟩ (semF force rel look f) (semF force rel look g) := by
  unfold Op2
  simp only [semF, semL]
/-- Bits of a node. -/
theorem bit_node {op : Nat} {nm : ByteArray} {a b w : Nat} (h1 : op ≠ 1) (hw : w < rel.length) : (nodeS force rel look op nm a b).testBit w = holdsB force op w (rel.getD w 0) a b := by
  rw [node_test h1]; simp [hw]
theorem eq_of_bits {n a b : Nat} (ha : a < 2 ^ n) (hb : b < 2 ^ n) (h : ∀ w, w < n → a.testBit w = b.testBit w) : a = b := by
  apply Nat.eq_of_testBit_eq
  intro w
  by_cases hw : w < n
  · exact h w hw
  · have e1 : a.testBit w = false := by rcases e : a.testBit w with _ | _; rfl; exact absurd (bits_lt ha e) hw
    have e2 : b.testBit w = false := by rcases e : b.testBit w with _ | _; rfl; exact absurd (bits_lt hb e) hw
    rw [e1, e2]
theorem all_test (n w : Nat) : (2 ^ n - 1).testBit w = decide (w < n) := by rw [Nat.testBit_two_pow_sub_one]
theorem all_of {n a : Nat} (ha : a < 2 ^ n) (h : ∀ w, w < n → a.testBit w = true) : a = 2 ^ n - 1 :=
  eq_of_bits ha (by have := Nat.two_pow_pos n; omega) fun w hw => by rw [h w hw, all_test]; simp [hw]
theorem FrOk.see {rel : List Nat} (h : FrOk rel) {w u : Nat} (hs : (rel.getD w 0).testBit u = true) : w < rel.length ∧ u < rel.length := by
  by_cases hw : w < rel.length
  · have hx : rel[w]? = some (rel.getD w 0) := by rw [List.getD_eq_getElem?_getD, List.getElem?_eq_getElem hw]; rfl
    exact ⟨hw, bits_lt (h.lt w _ hx) hs⟩
  · rw [List.getD_eq_getElem?_getD, List.getElem?_eq_none (by omega)] at hs
    simp at hs
end
section
variable {rel : List Nat} {look : ByteArray → Option Nat} (hF : Forc rel) (hlk : LookOk rel.length look) (hup : LookUp rel look)
include hF hlk
theorem not_bit (f : Fm) {w : Nat} (hw : w < rel.length) : (semF true rel look (Op1 3 f)).testBit w = true ↔ rel.getD w 0 &&& semF true rel look f = 0 := by
  rw [sem_one, bit_node (by omega) hw, holds_not, and_zero]
  exact Iff.rfl
include hup
theorem persists_and (f : Fm) (h : opsF false f = true) : semF true rel look f &&& semF true rel look (Op1 3 f) = 0 := by
  rw [and_zero]
  intro u hu
  have hul := bits_lt (semF_lt hlk f) hu
  rcases e : (semF true rel look (Op1 3 f)).testBit u with _ | _
  · rfl
  · rw [not_bit hF hlk f hul, and_zero] at e
    have := e u (hF.refl u hul)
    rw [hu] at this; cases this
theorem persists_three (f : Fm) (h : opsF false f = true) : semF true rel look (Op1 3 (Op1 3 (Op1 3 f))) = semF true rel look (Op1 3 f) := by
  refine eq_of_bits (semF_lt hlk _) (semF_lt hlk _) fun w hw => ?_
  rw [Bool.eq_iff_iff, not_bit hF hlk _ hw]
  have hup2 : UpM rel (semF true rel look (Op1 3 f)) := by
    rw [sem_one]
    exact up_node hF hlk hup _ (by omega) (by omega) (persist hF hlk hup f h) (upM_zero _) (semF_16 hF.ok hlk _) (by omega)
  constructor
  · intro h3
    rw [and_zero] at h3
    rw [not_bit hF hlk f hw, and_zero]
    intro u hu
    rcases e2 : (semF true rel look f).testBit u with _ | _
    · rfl
    · exfalso
      have hul := (hF.ok.see hu).2
      have := h3 u hu
      rw [Bool.eq_false_iff] at this
      apply this
      rw [not_bit hF hlk _ hul, and_zero]
      intro v hv
      rcases e3 : (semF true rel look (Op1 3 f)).testBit v with _ | _
      · rfl
      · exfalso
        rw [not_bit hF hlk f (hF.ok.see hv).2, and_zero] at e3
        have e4 := e3 v (hF.refl v (hF.ok.see hv).2)
        rw [persist hF hlk hup f h u v e2 hv] at e4
        cases e4
  · intro h3
    rw [and_zero]
    intro u hu
    rw [Bool.eq_false_iff]
    intro h4
    rw [not_bit hF hlk _ (hF.ok.see hu).2, and_zero] at h4
    have := h4 u (hF.refl u (hF.ok.see hu).2)
    rw [hup2 w u h3 hu] at this
    cases this
theorem persists_all (f : Fm) (h : opsF false f = true) (h0 : 0 < rel.length) (hroot : rel.getD 0 0 = 2 ^ rel.length - 1) (ht : (semF true rel look f).testBit 0 = true) : semF true rel look f = 2 ^ rel.length - 1 :=
  all_of (semF_lt hlk f) fun w hw => persist hF hlk hup f h 0 w ht (by rw [hroot, all_test]; simp [hw])
theorem persists_up (f : Fm) (h : opsF false f = true) {w : Nat} (ht : (semF true rel look f).testBit w = true) : andn (rel.getD w 0) (semF true rel look f) = 0 := by
  have h16 := semF_16 (force := true) hF.ok hlk f
  rw [andn_zero (hF.ok.lt32 w) (by omega)]
  exact fun u hu => persist hF hlk hup f h w u ht hu
end
end Go.FR
