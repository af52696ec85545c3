/- Frame: the plain laws of FrameForces and FrameModal. No program in sight. -/
import Derived.Test.YtflmllablfjfeaaDoorPlD
namespace Go.FR
open Go
set_option linter.unusedVariables false
set_option linter.unusedSimpArgs false
set_option linter.unusedSectionVars false
theorem and_lt {a b n : Nat} (ha : a < 2 ^ n) : a &&& b < 2 ^ n := Nat.lt_of_le_of_lt Nat.and_le_left ha
section
variable {force : Bool} {rel : List Nat} {look : ByteArray → Option Nat} (hr : FrOk rel) (hlk : LookOk rel.length look)
include hr hlk
theorem sem_and (f g : Fm) : semF force rel look (Op2 4 f g) = semF force rel look f &&& semF force rel look g :=
  eq_of_bits (semF_lt hlk _) (and_lt (semF_lt hlk _)) fun w hw => by
    rw [sem_two, bit_node (by omega) hw, holds_and, Nat.testBit_and]
theorem sem_or (f g : Fm) : semF force rel look (Op2 5 f g) = semF force rel look f ||| semF force rel look g :=
  eq_of_bits (semF_lt hlk _) (Nat.or_lt_two_pow (semF_lt hlk _) (semF_lt hlk _)) fun w hw => by
    rw [sem_two, bit_node (by omega) hw, holds_or, Nat.testBit_or]
theorem imp_bit (f g : Fm) {w : Nat} (hw : w < rel.length) : (semF force rel look (Op2 6 f g)).testBit w = true ↔ andn (reachB force rel w &&& semF force rel look f) (semF force rel look g) = 0 := by
  rw [sem_two, bit_node (by omega) hw]
  show decide (andn (reachB force rel w &&& _) _ = 0) = true ↔ _
  rw [decide_eq_true_iff]
theorem iff_bit (f g : Fm) {w : Nat} (hw : w < rel.length) : (semF force rel look (Op2 7 f g)).testBit w = true ↔ reachB force rel w &&& semF force rel look f = reachB force rel w &&& semF force rel look g := by
  rw [sem_two, bit_node (by omega) hw, holds_iff]
  constructor
  · intro h
    apply Nat.eq_of_testBit_eq
    intro u
    rw [Nat.testBit_and, Nat.testBit_and]
    rcases e : (reachB force rel w).testBit u with _ | _
    · rfl
    · rw [h u e]
  · intro h u hu
    have := congrArg (fun x => Nat.testBit x u) h
    simpa only [Nat.testBit_and, hu, Bool.true_and] using this
theorem box_bit (f : Fm) {w : Nat} (hw : w < rel.length) : (semF force rel look (Op1 10 f)).testBit w = true ↔ andn (rel.getD w 0) (semF force rel look f) = 0 := by
  rw [sem_one, bit_node (by omega) hw]
  show decide (andn (rel.getD w 0) _ = 0) = true ↔ _
  rw [decide_eq_true_iff]
theorem dia_bit (f : Fm) {w : Nat} (hw : w < rel.length) : (semF force rel look (Op1 11 f)).testBit w = true ↔ rel.getD w 0 &&& semF force rel look f ≠ 0 := by
  rw [sem_one, bit_node (by omega) hw]
  show decide (rel.getD w 0 &&& _ ≠ 0) = true ↔ _
  rw [decide_eq_true_iff]
end
section
variable {rel : List Nat} {look : ByteArray → Option Nat} (hr : FrOk rel) (hlk : LookOk rel.length look)
include hr hlk
theorem reach_modal {w u : Nat} : (reachB false rel w).testBit u = decide (u = w) := by
  show (1 <<< w : Nat).testBit u = _
  rw [shl_test]
theorem notm_bit (f : Fm) {w : Nat} (hw : w < rel.length) : (semF false rel look (Op1 3 f)).testBit w = !(semF false rel look f).testBit w := by
  rw [sem_one, bit_node (by omega) hw, Bool.eq_iff_iff, holds_not]
  constructor
  · intro h
    rw [h w (by rw [reach_modal hr hlk]; simp)]; rfl
  · intro h u hu
    rw [reach_modal hr hlk, decide_eq_true_iff] at hu
    subst hu
    simpa using h
theorem impm_bit (f g : Fm) {w : Nat} (hw : w < rel.length) : (semF false rel look (Op2 6 f g)).testBit w = (!(semF false rel look f).testBit w || (semF false rel look g).testBit w) := by
  rw [sem_two, bit_node (by omega) hw, Bool.eq_iff_iff, holds_imp hr hw (semF_16 hr hlk _) (semF_16 hr hlk _)]
  constructor
  · intro h
    have := h w (by rw [reach_modal hr hlk]; simp)
    rcases e : (semF false rel look f).testBit w with _ | _
    · rfl
    · rw [this e]; rfl
  · intro h u hu hau
    rw [reach_modal hr hlk, decide_eq_true_iff] at hu
    subst hu
    rw [hau] at h
    simpa using h
theorem boxm_bit (f : Fm) {w : Nat} (hw : w < rel.length) : (semF false rel look (Op1 10 f)).testBit w = true ↔ ∀ u, (rel.getD w 0).testBit u = true → (semF false rel look f).testBit u = true := by
  rw [sem_one, bit_node (by omega) hw, holds_box hr (semF_16 hr hlk _)]
theorem diam_bit (f : Fm) {w : Nat} (hw : w < rel.length) : (semF false rel look (Op1 11 f)).testBit w = true ↔ ¬ ∀ u, (rel.getD w 0).testBit u = true → (semF false rel look f).testBit u = false := by
  rw [sem_one, bit_node (by omega) hw, holds_dia]
theorem modal_dual (f : Fm) : semF false rel look (Op1 3 (Op1 10 (Op1 3 f))) = semF false rel look (Op1 11 f) := by
  refine eq_of_bits (semF_lt hlk _) (semF_lt hlk _) fun w hw => ?_
  rw [notm_bit hr hlk _ hw, Bool.eq_iff_iff, diam_bit hr hlk f hw]
  rw [Bool.not_eq_true', Bool.eq_false_iff, Ne, boxm_bit hr hlk _ hw]
  constructor
  · intro h h2
    exact h fun u hu => by rw [notm_bit hr hlk _ (hr.see hu).2, h2 u hu]; rfl
  · intro h h2
    exact h fun u hu => by
      have := h2 u hu
      rw [notm_bit hr hlk _ (hr.see hu).2] at this
      simpa using this
theorem modal_k (f g : Fm) : semF false rel look (Op2 6 (Op1 10 (Op2 6 f g)) (Op2 6 (Op1 10 f) (Op1 10 g))) = 2 ^ rel.length - 1 := by
  refine all_of (semF_lt hlk _) fun w hw => ?_
  rw [impm_bit hr hlk _ _ hw, impm_bit hr hlk _ _ hw]
  rcases e1 : (semF false rel look (Op1 10 (Op2 6 f g))).testBit w with _ | _
  · rfl
  · rcases e2 : (semF false rel look (Op1 10 f)).testBit w with _ | _
    · rfl
    · have : (semF false rel look (Op1 10 g)).testBit w = true := by
        rw [boxm_bit hr hlk _ hw] at e1 e2 ⊢
        intro u hu
        have h1 := e1 u hu
        rw [impm_bit hr hlk _ _ (hr.see hu).2, e2 u hu] at h1
        simpa using h1
      rw [this]; rfl
theorem modal_not (f : Fm) : semF false rel look (Op1 3 f) = andn (2 ^ rel.length - 1) (semF false rel look f) := by
  have hp := pow_le4 hr.len
  have h1 := semF_16 (force := false) hr hlk f
  have h2 := Nat.two_pow_pos rel.length
  refine eq_of_bits (n := rel.length) (semF_lt hlk _) ?_ fun w hw => ?_
  · unfold andn; exact and_lt (by omega)
  · rw [notm_bit hr hlk _ hw, andn_test (by omega) (by omega), all_test]
    simp [hw]
theorem modal_nec (f : Fm) (h : semF false rel look f = 2 ^ rel.length - 1) : semF false rel look (Op1 10 f) = 2 ^ rel.length - 1 :=
  all_of (semF_lt hlk _) fun w hw => by
    rw [boxm_bit hr hlk _ hw]
    intro u hu
    rw [h, all_test]
    simp [(hr.see hu).2]
end
/-- All or nothing. -/
def AllNo (n m : Nat) : Prop := m = 0 ∨ m = 2 ^ n - 1
theorem allno_bits {n m : Nat} (h : AllNo n m) : (∀ w, w < n → m.testBit w = false) ∨ ∀ w, w < n → m.testBit w = true := by
  rcases h with rfl | rfl
  · exact .inl fun w _ => by simp
  · exact .inr fun w hw => by rw [all_test]; simp [hw]
theorem allno_of {n m : Nat} (hm : m < 2 ^ n) (h : (∀ w, w < n → m.testBit w = false) ∨ ∀ w, w < n → m.testBit w = true) : AllNo n m := by
  rcases h with h | h
  · refine .inl (eq_of_bits hm (Nat.two_pow_pos n) fun w hw => by rw [h w hw]; simp)
  · exact .inr (all_of hm h)
theorem allno_zero (n : Nat) : AllNo n 0 := .inl rfl
theorem allno_node {rel : List Nat} {look : ByteArray → Option Nat} (hF : Forc rel) (hlk : LookOk rel.length look) (hall : ∀ s m, look s = some m → AllNo rel.length m) {op : Nat} (nm : ByteArray) {a b : Nat} (h1 : 1 ≤ op) (h7 : op ≤ 7) (ha : AllNo rel.length a) (hb : AllNo rel.length b) (la : a < 16) (lb : b < 16) : AllNo rel.length (nodeS true rel look op nm a b) := by
  by_cases e1 : op = 1
  · unfold nodeS
    rw [if_pos e1]
    rcases e : look nm with _ | m
    · exact allno_zero _
    · exact hall nm m e
  · refine allno_of (nodeS_lt hlk _ _ _ _) ?_
    have hb1 := allno_bits ha
    have hb2 := allno_bits hb
    have key : ∀ w, w < rel.length → (nodeS true rel look op nm a b).testBit w = holdsB true op w (rel.getD w 0) a b := fun w hw => bit_node e1 hw
    have hs : ∀ {w u}, (reachB true rel w).testBit u = true → u < rel.length := fun h => (hF.ok.see h).2
    rcases (by omega : op = 2 ∨ op = 3 ∨ op = 4 ∨ op = 5 ∨ op = 6 ∨ op = 7) with rfl | rfl | rfl | rfl | rfl | rfl
    · exact .inl fun w hw => by rw [key w hw]; rfl
    · rcases hb1 with h | h
      · exact .inr fun w hw => by rw [key w hw, holds_not]; exact fun u hu => h u (hs hu)
      · refine .inl fun w hw => ?_
        rw [key w hw, Bool.eq_false_iff, Ne, holds_not]
        intro h2
        have := h2 w (hF.refl w hw)
        rw [h w hw] at this; cases this
    · rcases hb1 with h | h
      · exact .inl fun w hw => by rw [key w hw, holds_and, h w hw]; rfl
      · rcases hb2 with h2 | h2
        · exact .inl fun w hw => by rw [key w hw, holds_and, h2 w hw]; simp
        · exact .inr fun w hw => by rw [key w hw, holds_and, h w hw, h2 w hw]; rfl
    · rcases hb1 with h | h
      · rcases hb2 with h2 | h2
        · exact .inl fun w hw => by rw [key w hw, holds_or, h w hw, h2 w hw]; rfl
        · exact .inr fun w hw => by rw [key w hw, holds_or, h2 w hw]; simp
      · exact .inr fun w hw => by rw [key w hw, holds_or, h w hw]; rfl
    · rcases hb1 with h | h
      · exact .inr fun w hw => by
          rw [key w hw, holds_imp hF.ok hw la lb]
          intro u hu h3; rw [h u (hs hu)] at h3; cases h3
      · rcases hb2 with h2 | h2
        · refine .inl fun w hw => ?_
          rw [key w hw, Bool.eq_false_iff, Ne, holds_imp hF.ok hw la lb]
          intro h3
          have := h3 w (hF.refl w hw) (h w hw)
          rw [h2 w hw] at this; cases this
        · exact .inr fun w hw => by rw [key w hw, holds_imp hF.ok hw la lb]; exact fun u hu _ => h2 u (hs hu)
    · rcases hb1 with h | h
      · rcases hb2 with h2 | h2
        · exact .inr fun w hw => by rw [key w hw, holds_iff]; exact fun u hu => by rw [h u (hs hu), h2 u (hs hu)]
        · refine .inl fun w hw => ?_
          rw [key w hw, Bool.eq_false_iff, Ne, holds_iff]
          intro h3
          have := h3 w (hF.refl w hw)
          rw [h w hw, h2 w hw] at this; cases this
      · rcases hb2 with h2 | h2
        · refine .inl fun w hw => ?_
          rw [key w hw, Bool.eq_false_iff, Ne, holds_iff]
          intro h3
          have := h3 w (hF.refl w hw)
          rw [h w hw, h2 w hw] at this; cases this
        · exact .inr fun w hw => by rw [key w hw, holds_iff]; exact fun u hu => by rw [h u (hs hu), h2 u (hs hu)]
mutual
theorem allno {rel : List Nat} {look : ByteArray → Option Nat} (hF : Forc rel) (hlk : LookOk rel.length look) (hall : ∀ s m, look s = some m → AllNo rel.length m) : ∀ f, opsF false f = true → AllNo rel.length (semF true rel look f)
  | .mk op nm args subs, h => by
    unfold opsF at h
    simp only [Bool.and_eq_true, Bool.or_eq_true, decide_eq_true_iff, Bool.false_and, Bool.false_eq_true, or_false] at h
    unfold semF
    have hs := allnoL hF hlk hall subs h.2
    have hl := opsL_two (modal := false) (P := fun m => m < 16) (rel := rel) (look := look) (by omega) true subs (fun f _ => semF_16 hF.ok hlk f)
    exact allno_node hF hlk hall nm h.1.2.1 h.1.2.2 hs.1 hs.2 hl.1 hl.2
theorem allnoL {rel : List Nat} {look : ByteArray → Option Nat} (hF : Forc rel) (hlk : LookOk rel.length look) (hall : ∀ s m, look s = some m → AllNo rel.length m) : ∀ l, opsL false l = true → AllNo rel.length (semL true rel look l).1 ∧ AllNo rel.length (semL true rel look l).2
  | [], _ => ⟨allno_zero _, allno_zero _⟩
  | f :: r, h => by
    unfold opsL at h
    rw [Bool.and_eq_true] at h
    unfold semL
    exact ⟨allno hF hlk hall f h.1, (allnoL hF hlk hall r h.2).1⟩
end
/-- A or not A. -/
theorem third {rel : List Nat} {look : ByteArray → Option Nat} (hF : Forc rel) (hlk : LookOk rel.length look) (hall : ∀ s m, look s = some m → AllNo rel.length m) (h0 : 0 < rel.length) (f : Fm) (h : opsF false f = true) : (semF true rel look (Op2 5 f (Op1 3 f))).testBit 0 = true := by
  rw [sem_or hF.ok hlk, Nat.testBit_or]
  rcases e : (semF true rel look f).testBit 0 with _ | _
  · have h1 := allno_bits (allno hF hlk hall f h)
    have h2 : ∀ w, w < rel.length → (semF true rel look f).testBit w = false := by
      rcases h1 with h1 | h1
      · exact h1
      · rw [h1 0 h0] at e; cases e
    have : (semF true rel look (Op1 3 f)).testBit 0 = true := by
      rw [not_bit hF hlk f h0, and_zero]
      exact fun u hu => h2 u (hF.ok.see hu).2
    rw [this]; rfl
  · rfl
end Go.FR
