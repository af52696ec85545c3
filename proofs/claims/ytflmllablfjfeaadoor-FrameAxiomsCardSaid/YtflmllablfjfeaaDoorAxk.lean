/- Frame: what FrameAxioms' walk needs: Fsx Foa Clp Clq Axp Axw Axq in one text (axk.py). -/
import Derived.Test.YtflmllablfjfeaaDoorPli
namespace Go.Proofs.YtflmllablfjfeaaDoor
open Go.RowKit Go.HK Go.FR
set_option linter.unusedVariables false
set_option linter.unusedSimpArgs false
set_option linter.unusedSectionVars false
abbrev ptr0 (B : Nat) : Value := .pointer (some ⟨B, 0, none⟩)
/-- A place that is none of the two boxes', and not elder than m. -/
def NoB (m : Nat) (b c : Bool) (p q : Value) (W : World) (k : Nat) : Prop := k < W.heap.size ∧ (b = true → p ≠ ptr0 k) ∧ (c = true → q ≠ ptr0 k) ∧ m ≤ k
/-- A formula's value that lies in none of the two boxes. -/
def FvN (m : Nat) (b c : Bool) (p q : Value) (W : World) (v : Value) (f : Fm) : Prop := ∃ (o : Nat) (nm : ByteArray) (a0 : Option Addr) (a1 a2 : Nat) (s0 : Option Addr) (s1 s2 : Nat), v = .agg #[.int .u8 (o : Int), .string nm, .slice a0 a1 a2, .slice s0 s1 s2] ∧ f.op = o ∧ f.name = nm ∧ IsFm (NoB m b c p q W) W ⟨a0, a1, a2⟩ ⟨s0, s1, s2⟩ f
/-- A box of four cells; ob: the other one is there, at v. -/
def BxN (m : Nat) (ob : Bool) (v : Value) (W : World) (r : Value) : Prop := ∃ (B : Nat) (c0 c1 c2 c3 : Value), r = ptr0 B ∧ W.heap[B]? = some (.cells #[c0, c1, c2, c3] 35 (0, 0)) ∧ m ≤ B ∧ (ob = true → v ≠ r)
/-- A box with a formula. -/
def FmN (b c : Bool) (p q : Value) (m : Nat) (ob : Bool) (v : Value) (W : World) (r : Value) (f : Fm) : Prop := ∃ (B : Nat) (o : Nat) (nm : ByteArray) (a0 : Option Addr) (a1 a2 : Nat) (s0 : Option Addr) (s1 s2 : Nat), r = ptr0 B ∧ W.heap[B]? = some (.cells #[.int .u8 (o : Int), .string nm, .slice a0 a1 a2, .slice s0 s1 s2] 35 (0, 0)) ∧ m ≤ B ∧ (ob = true → v ≠ r) ∧ f.op = o ∧ f.name = nm ∧ IsFm (NoB m b c p q W) W ⟨a0, a1, a2⟩ ⟨s0, s1, s2⟩ f
theorem ptr0_ne {W : World} {B : Nat} {o : Obj} (h : W.heap[B]? = some o) : ptr0 B ≠ ptr0 W.heap.size := fun e => by
  have := HK.blk_lt h
  simp [ptr0] at e <;> omega
abbrev set5 (w : World) (b : Nat) (v0 v1 v2 v3 : Value) : World := (((w.setCell ⟨b, 0, none⟩ v0).setCell ⟨b, 1, none⟩ v1).setCell ⟨b, 2, none⟩ v2).setCell ⟨b, 3, none⟩ v3
theorem below4 {q W : World} {B : Nat} (h : Below q.heap.size q W) (hB : q.heap.size ≤ B) (v0 v1 v2 v3 : Value) : Below q.heap.size q (set5 W B v0 v1 v2 v3) :=
  (frm4 (HK.Frm.of_below h (fun j => j = B)) v0 v1 v2 v3).below (Nat.le_refl _) (fun j hj => by omega)
theorem heap5 {W : World} {B k : Nat} (hk : k < W.heap.size) (hn : k ≠ B) (v0 v1 v2 v3 : Value) : (set5 W B v0 v1 v2 v3).heap[k]? = W.heap[k]? := by
  have h := List.getElem?_eq_getElem (l := W.heap.toList) (i := k) (by simpa using hk)
  have h2 : W.heap[k]? = some W.heap[k] := Array.getElem?_eq_getElem hk
  rw [h2]; exact blk4 h2 hn v0 v1 v2 v3
section
variable {b c ob : Bool} {p q v r u : Value} {W W' : World} {m : Nat} {f : Fm}
theorem FvN.below (h : FvN m b c p q W u f) (hB : Below W.heap.size W W') : FvN m b c p q W' u f := by
  obtain ⟨o, nm, a0, a1, a2, s0, s1, s2, h1, h2, h3, h4⟩ := h
  exact ⟨o, nm, a0, a1, a2, s0, s1, s2, h1, h2, h3, h4.turn fun k hk => ⟨⟨Nat.lt_of_lt_of_le hk.1 hB.size, hk.2⟩, hB.block k hk.1⟩⟩
theorem FvN.al1 (h : FvN m b c p q W u f) (o : Obj) : FvN m true c (ptr0 W.heap.size) q (W.alloc o) u f := by
  obtain ⟨o', nm, a0, a1, a2, s0, s1, s2, h1, h2, h3, h4⟩ := h
  have hB := below_alloc W o
  exact ⟨o', nm, a0, a1, a2, s0, s1, s2, h1, h2, h3, h4.turn fun k hk => ⟨⟨Nat.lt_of_lt_of_le hk.1 hB.size, (fun _ e => by have := hk.1; simp [ptr0] at e <;> omega), hk.2.2⟩, hB.block k hk.1⟩⟩
theorem FvN.al2 (h : FvN m b c p q W u f) (o : Obj) : FvN m b true p (ptr0 W.heap.size) (W.alloc o) u f := by
  obtain ⟨o', nm, a0, a1, a2, s0, s1, s2, h1, h2, h3, h4⟩ := h
  have hB := below_alloc W o
  exact ⟨o', nm, a0, a1, a2, s0, s1, s2, h1, h2, h3, h4.turn fun k hk => ⟨⟨Nat.lt_of_lt_of_le hk.1 hB.size, hk.2.1, (fun _ e => by have := hk.1; simp [ptr0] at e <;> omega), hk.2.2.2⟩, hB.block k hk.1⟩⟩
theorem nob_set {B : Nat} (hn : (b = true ∧ p = ptr0 B) ∨ (c = true ∧ q = ptr0 B)) {a s : SL} (h : IsFm (NoB m b c p q W) W a s f) (v0 v1 v2 v3 : Value) : IsFm (NoB m b c p q (set5 W B v0 v1 v2 v3)) (set5 W B v0 v1 v2 v3) a s f := h.turn fun k hk => by
  refine ⟨⟨by simpa using hk.1, hk.2⟩, heap5 hk.1 (fun e => ?_) _ _ _ _⟩
  subst e
  rcases hn with ⟨h1, h2⟩ | ⟨h1, h2⟩
  · exact hk.2.1 h1 h2
  · exact hk.2.2.1 h1 h2
theorem FvN.set {B : Nat} (h : FvN m b c p q W u f) (hn : (b = true ∧ p = ptr0 B) ∨ (c = true ∧ q = ptr0 B)) (v0 v1 v2 v3 : Value) : FvN m b c p q (set5 W B v0 v1 v2 v3) u f := by
  obtain ⟨o', nm, a0, a1, a2, s0, s1, s2, h1, h2, h3, h4⟩ := h
  exact ⟨o', nm, a0, a1, a2, s0, s1, s2, h1, h2, h3, nob_set hn h4 _ _ _ _⟩
theorem BxN.below (h : BxN m ob v W r) (hB : Below W.heap.size W W') : BxN m ob v W' r := by
  obtain ⟨B, c0, c1, c2, c3, h1, h2, h3, h4⟩ := h
  exact ⟨B, c0, c1, c2, c3, h1, blk_up9 hB h2, h3, h4⟩
theorem BxN.al (h : BxN m ob v W r) (o : Obj) : BxN m true (ptr0 W.heap.size) (W.alloc o) r := by
  obtain ⟨B, c0, c1, c2, c3, h1, h2, h3, h4⟩ := h
  exact ⟨B, c0, c1, c2, c3, h1, HK.blk_alloc h2 o, h3, fun _ e => ptr0_ne h2 (by rw [← h1, e])⟩
theorem BxN.set {B : Nat} (h : BxN m ob v W r) (hn : ob = true) (hv : v = ptr0 B) (v0 v1 v2 v3 : Value) : BxN m ob v (set5 W B v0 v1 v2 v3) r := by
  obtain ⟨B', c0, c1, c2, c3, h1, h2, h3, h4⟩ := h
  exact ⟨B', c0, c1, c2, c3, h1, blk4 h2 (fun e => h4 hn (by rw [hv, h1, e])) _ _ _ _, h3, h4⟩
theorem BxN.own {B : Nat} {c0 c1 c2 c3 : Value} (h : BxN m ob v W r) (hr : r = ptr0 B) (hb : W.heap[B]? = some (.cells #[c0, c1, c2, c3] 35 (0, 0))) (v0 v1 v2 v3 : Value) : BxN m ob v (set5 W B v0 v1 v2 v3) r := by
  obtain ⟨B', c0', c1', c2', c3', h1, h2, h3, h4⟩ := h
  obtain rfl : B = B' := by rw [hr] at h1; simpa [ptr0] using h1
  exact ⟨B, _, _, _, _, h1, set4 hb v0 v1 v2 v3, h3, h4⟩
theorem BxN.fresh {o : Obj} {c0 c1 c2 c3 : Value} (hm : m ≤ W.heap.size) (ho : ob = true → ∃ ob v', BxN m ob v' W v) (hobj : o = .cells #[c0, c1, c2, c3] 35 (0, 0) := by rfl) : BxN m ob v (W.alloc o) (ptr0 W.heap.size) := by
  subst hobj
  refine ⟨_, c0, c1, c2, c3, rfl, HK.blk_new _ _, hm, fun h e => ?_⟩
  obtain ⟨_, _, B, c0', c1', c2', c3', h1, h2, _⟩ := ho h
  exact ptr0_ne h2 (by rw [← h1, e])
theorem FmN.below (h : FmN b c p q m ob v W r f) (hB : Below W.heap.size W W') : FmN b c p q m ob v W' r f := by
  obtain ⟨B, o, nm, a0, a1, a2, s0, s1, s2, h1, h2, h3, h4, h5, h6, h7⟩ := h
  exact ⟨B, o, nm, a0, a1, a2, s0, s1, s2, h1, blk_up9 hB h2, h3, h4, h5, h6, h7.turn fun k hk => ⟨⟨Nat.lt_of_lt_of_le hk.1 hB.size, hk.2⟩, hB.block k hk.1⟩⟩
theorem FmN.al1 (h : FmN b c p q m ob v W r f) (o : Obj) : FmN true c (ptr0 W.heap.size) q m true (ptr0 W.heap.size) (W.alloc o) r f := by
  obtain ⟨B, o', nm, a0, a1, a2, s0, s1, s2, h1, h2, h3, h4, h5, h6, h7⟩ := h
  have hB := below_alloc W o
  exact ⟨B, o', nm, a0, a1, a2, s0, s1, s2, h1, HK.blk_alloc h2 o, h3, fun _ e => ptr0_ne h2 (by rw [← h1, e]), h5, h6, h7.turn fun k hk => ⟨⟨Nat.lt_of_lt_of_le hk.1 hB.size, (fun _ e => by have := hk.1; simp [ptr0] at e <;> omega), hk.2.2⟩, hB.block k hk.1⟩⟩
theorem FmN.al2 (h : FmN b c p q m ob v W r f) (o : Obj) : FmN b true p (ptr0 W.heap.size) m true (ptr0 W.heap.size) (W.alloc o) r f := by
  obtain ⟨B, o', nm, a0, a1, a2, s0, s1, s2, h1, h2, h3, h4, h5, h6, h7⟩ := h
  have hB := below_alloc W o
  exact ⟨B, o', nm, a0, a1, a2, s0, s1, s2, h1, HK.blk_alloc h2 o, h3, fun _ e => ptr0_ne h2 (by rw [← h1, e]), h5, h6, h7.turn fun k hk => ⟨⟨Nat.lt_of_lt_of_le hk.1 hB.size, hk.2.1, (fun _ e => by have := hk.1; simp [ptr0] at e <;> omega), hk.2.2.2⟩, hB.block k hk.1⟩⟩
theorem FmN.set {B : Nat} (h : FmN b c p q m ob v W r f) (ho : ob = true) (hv : v = ptr0 B) (hn : (b = true ∧ p = ptr0 B) ∨ (c = true ∧ q = ptr0 B)) (v0 v1 v2 v3 : Value) : FmN b c p q m ob v (set5 W B v0 v1 v2 v3) r f := by
  obtain ⟨B', o', nm, a0, a1, a2, s0, s1, s2, h1, h2, h3, h4, h5, h6, h7⟩ := h
  exact ⟨B', o', nm, a0, a1, a2, s0, s1, s2, h1, blk4 h2 (fun e => h4 ho (by rw [hv, h1, e])) _ _ _ _, h3, h4, h5, h6, nob_set hn h7 _ _ _ _⟩
/-- A formula in a box; the box and all its rows are not elder than m. -/
def FmS (m : Nat) (W : World) (B : Nat) (f : Fm) : Prop := m ≤ B ∧ ∃ (o : Nat) (nm : ByteArray) (a0 : Option Addr) (a1 a2 : Nat) (s0 : Option Addr) (s1 s2 : Nat), W.heap[B]? = some (.cells #[.int .u8 (o : Int), .string nm, .slice a0 a1 a2, .slice s0 s1 s2] 35 (0, 0)) ∧ f.op = o ∧ f.name = nm ∧ IsFm (fun k => m ≤ k ∧ k < W.heap.size) W ⟨a0, a1, a2⟩ ⟨s0, s1, s2⟩ f
theorem FmS.turn {B : Nat} (h : FmS m W B f) (hs : W.heap.size ≤ W'.heap.size) (hb : ∀ k, m ≤ k → k < W.heap.size → W'.heap[k]? = W.heap[k]?) : FmS m W' B f := by
  obtain ⟨h0, o, nm, a0, a1, a2, s0, s1, s2, h1, h2, h3, h4⟩ := h
  exact ⟨h0, o, nm, a0, a1, a2, s0, s1, s2, (hb B h0 (HK.blk_lt h1)).trans h1, h2, h3, h4.turn fun k hk => ⟨⟨hk.1, Nat.lt_of_lt_of_le hk.2 hs⟩, hb k hk.1 hk.2⟩⟩
theorem FmS.box {B : Nat} (h : FmS m W B f) : FmB W B f := by
  obtain ⟨h0, o, nm, a0, a1, a2, s0, s1, s2, h1, h2, h3, h4⟩ := h
  exact ⟨o, nm, a0, a1, a2, s0, s1, s2, h1, h2, h3, h4.turn fun k hk => ⟨hk.2, rfl⟩⟩
theorem FmN.boxS (h : FmN b c p q m ob v W r f) : ∃ B, r = ptr0 B ∧ FmS m W B f := by
  obtain ⟨B', o', nm, a0, a1, a2, s0, s1, s2, h1, h2, h3, h4, h5, h6, h7⟩ := h
  exact ⟨B', h1, h3, o', nm, a0, a1, a2, s0, s1, s2, h2, h5, h6, h7.turn fun k hk => ⟨⟨hk.2.2.2, hk.1⟩, rfl⟩⟩
theorem FmN.box (h : FmN b c p q m ob v W r f) : ∃ B, r = ptr0 B ∧ FmB W B f := by
  obtain ⟨B', o', nm, a0, a1, a2, s0, s1, s2, h1, h2, h3, h4, h5, h6, h7⟩ := h
  exact ⟨B', h1, o', nm, a0, a1, a2, s0, s1, s2, h2, h5, h6, h7.turn fun k hk => ⟨hk.1, rfl⟩⟩
theorem FvN.of_call {a s : SL} (hb : b = true → BxN m ob v W p) (hc : c = true → ∃ ob v, BxN m ob v W q) (hW : W.heap.size ≤ W'.heap.size) (hm : m ≤ W.heap.size) (hfm : IsFm (fun k => W.heap.size ≤ k ∧ k < W'.heap.size) W' a s f) : FvN m b c p q W' (fv f a s) f := by
  obtain ⟨a0, a1, a2⟩ := a
  obtain ⟨s0, s1, s2⟩ := s
  refine ⟨f.op, f.name, a0, a1, a2, s0, s1, s2, rfl, rfl, rfl, hfm.turn fun k hk => ⟨⟨hk.2, fun h e => ?_, fun h e => ?_, Nat.le_trans hm hk.1⟩, rfl⟩⟩
  · obtain ⟨B, c0, c1, c2, c3, h1, h2, _⟩ := hb h
    rw [h1] at e
    have := HK.blk_lt h2
    simp [ptr0] at e <;> omega
  · obtain ⟨_, _, B, c0, c1, c2, c3, h1, h2, _⟩ := hc h
    rw [h1] at e
    have := HK.blk_lt h2
    simp [ptr0] at e <;> omega
end
end Go.Proofs.YtflmllablfjfeaaDoor
namespace Go.Proofs.YtflmllablfjfeaaDoor
open Go.RowKit Go.HK Go.FR
set_option linter.unusedVariables false
set_option linter.unusedSimpArgs false
set_option linter.unusedSectionVars false
/-- A fact as the law turns it. -/
def low (m : Nat) : Nat := if m.testBit 0 = true then m else 0
theorem low_yes {m : Nat} (h : m.testBit 0 = true) : low m = m := by unfold low; rw [if_pos h]
theorem low_no {m : Nat} (h : m.testBit 0 = false) : low m = 0 := by unfold low; rw [if_neg (by rw [h]; exact Bool.false_ne_true)]
theorem low_allno {rel : List Nat} {m : Nat} (hm : m < 2 ^ rel.length) (hup : UpM rel m) (hroot : rel.getD 0 0 = 2 ^ rel.length - 1) : AllNo rel.length (low m) := by
  rcases e : m.testBit 0 with _ | _
  · rw [low_no e]; exact .inl rfl
  · rw [low_yes e]; exact .inr (all_of hm fun w hw => hup 0 w e (by rw [hroot, all_test]; simp [hw]))
theorem low_up {rel : List Nat} {m : Nat} (hup : UpM rel m) : UpM rel (low m) := by
  rcases e : m.testBit 0 with _ | _
  · rw [low_no e]; intro w u h; simp at h
  · rw [low_yes e]; exact hup
theorem low_lt {n m : Nat} (hm : m < 2 ^ n) : low m < 2 ^ n := by
  rcases e : m.testBit 0 with _ | _
  · rw [low_no e]; exact Nat.two_pow_pos n
  · rw [low_yes e]; exact hm
/-- Three facts in their block. -/
def FcB (fg : Nat) (U : Nat → Nat) (W : World) : Prop := ∃ arr : Array Value, W.heap[fg]? = some (.cells arr 46 (0, 0)) ∧ ∀ k, k < 3 → arr[k * 3]? = some (.string (pqr k)) ∧ arr[k * 3 + 1]? = some (.int .i64 0) ∧ arr[k * 3 + 2]? = some (.int .i64 (U k : Int))
theorem fcB_own {w : World} {b fg fc x y z : Nat} (h : w.ownsRow b 46 3 (.slice (some ⟨fg, 0, none⟩) 3 fc) 3 (fcs 0 [x, y, z])) : FcB fg (fun j => [x, y, z].getD j 0) w := by
  have h0 := h
  rcases h.2 with ⟨h1, _⟩ | ⟨g, cap, cur, h1, _, h2, _⟩
  · cases h1
  · cases h1
    have e := fun i (hi : i < 9) => (HK.blk_cell h2 i).symm.trans (h0.cellAt i (by omega))
    refine ⟨cur, h2, fun k hk => ?_⟩
    rcases (by omega : k = 0 ∨ k = 1 ∨ k = 2) with rfl | rfl | rfl <;> exact ⟨(e _ (by omega)).trans rfl, (e _ (by omega)).trans rfl, (e _ (by omega)).trans rfl⟩
theorem FcB.set {fg : Nat} {U : Nat → Nat} {W : World} {k : Nat} (h : FcB fg U W) (hk : k < 3) (v : Nat) : FcB fg (fun j => if j = k then v else U j) (W.setCell ⟨fg, k * 3 + 2, none⟩ (.int .i64 (v : Int))) := by
  obtain ⟨arr, h1, h2⟩ := h
  refine ⟨_, HK.blk_set h1 _ _, fun j hj => ?_⟩
  obtain ⟨a, b, c⟩ := h2 j hj
  have hb : k * 3 + 2 < arr.size := by obtain ⟨_, _, c⟩ := h2 k hk; exact (Array.getElem?_eq_some_iff.1 c).1
  rw [Array.getElem?_setIfInBounds, Array.getElem?_setIfInBounds, Array.getElem?_setIfInBounds]
  refine ⟨by rw [if_neg (by omega)]; exact a, by rw [if_neg (by omega)]; exact b, ?_⟩
  by_cases e : j = k
  · subst e; simp [hb]
  · rw [if_neg (by omega)]; simp only [if_neg e]; exact c
theorem FcB.alloc {fg : Nat} {U : Nat → Nat} {W : World} (h : FcB fg U W) (o : Obj) : FcB fg U (W.alloc o) := by
  obtain ⟨arr, h1, h2⟩ := h
  exact ⟨arr, HK.blk_alloc h1 o, h2⟩
theorem FcB.below {fg : Nat} {U : Nat → Nat} {W W' : World} (h : FcB fg U W) (hB : Below W.heap.size W W') : FcB fg U W' := by
  obtain ⟨arr, h1, h2⟩ := h
  exact ⟨arr, blk_up9 hB h1, h2⟩
theorem FcB.ext {fg : Nat} {U V : Nat → Nat} {W : World} (h : FcB fg U W) (e : ∀ k, k < 3 → U k = V k) : FcB fg V W := by
  obtain ⟨arr, h1, h2⟩ := h
  exact ⟨arr, h1, fun k hk => by rw [← e k hk]; exact h2 k hk⟩
theorem pqr_size (i : Nat) (hi : i < 3) : (pqr i).size ≤ maxLen := by
  rcases (by omega : i = 0 ∨ i = 1 ∨ i = 2) with rfl | rfl | rfl <;> (show (1 : Nat) ≤ maxLen; unfold maxLen; omega)
/-- The model in its box, from its rows. -/
theorem mb_of {W : World} {B b g c fg fc n : Nat} {rl : List Nat} {U : Nat → Nat} {x y z : Nat}
    (hb : W.heap[B]? = some (.cells #[.int .u8 3, .int .i64 (n : Int), .slice (some ⟨g, 0, none⟩) n c, .int .i64 0, .slice (some ⟨fg, 0, none⟩) 3 fc, .slice none 0 0, .slice none 0 0] 30 (0, 0)))
    (hR : W.ownsRow b 3 1 (.slice (some ⟨g, 0, none⟩) n c) n (ints rl)) (hn : rl.length = n) (hf : FcB fg U W) (e0 : U 0 = x) (e1 : U 1 = y) (e2 : U 2 = z) : MB W B (mdl 3 n rl [x, y, z]) := by
  have hg : g < W.heap.size := own_lt9 hR g rfl
  obtain ⟨arr, h1, h2⟩ := hf
  have hfg := HK.blk_lt h1
  refine ⟨3, n, 0, some ⟨g, 0, none⟩, n, c, some ⟨fg, 0, none⟩, 3, fc, none, 0, 0, none, 0, 0, hb, rfl, rfl, rfl, ⟨⟨?_, fun i x hx => ?_⟩, ⟨rfl, fun i f hf => ?_⟩, rfl, rfl, by show (3 : Nat) < 256; omega, by show (3 : Nat) ≤ 1000000000; omega⟩⟩
  · show n = _; unfold mdl; rw [List.length_map]; exact hn.symm
  · exact ⟨g, 0, rfl, hg, (isR_own hR).z i x hx⟩
  · have hi : i < 3 := (List.getElem?_eq_some_iff.1 hf).1
    obtain ⟨a, d, e⟩ := h2 i hi
    refine ⟨fg, 0, rfl, hfg, ?_⟩
    rw [Nat.zero_add, HK.blk_cell h1, HK.blk_cell h1, HK.blk_cell h1]
    unfold mdl at hf
    rcases (by omega : i = 0 ∨ i = 1 ∨ i = 2) with rfl | rfl | rfl
    · simp only [factL, List.getElem?_cons_zero, Option.some.injEq] at hf; subst hf; rw [← e0]; exact ⟨a, d, e, pqr_size _ (by omega)⟩
    · simp only [factL, List.getElem?_cons_zero, List.getElem?_cons_succ, Option.some.injEq] at hf; subst hf; rw [← e1]; exact ⟨a, d, e, pqr_size _ (by omega)⟩
    · simp only [factL, List.getElem?_cons_zero, List.getElem?_cons_succ, Option.some.injEq] at hf; subst hf; rw [← e2]; exact ⟨a, d, e, pqr_size _ (by omega)⟩
/-- What has been since. -/
def Since (a W : World) : Prop := Below a.heap.size a W
theorem Since.below {a W W' : World} (h : Since a W) (hB : Below W.heap.size W W') : Since a W' := below_tr h hB
theorem FmS.below {m : Nat} {W W' : World} {B : Nat} {f : Fm} (h : FmS m W B f) (hB : Below W.heap.size W W') : FmS m W' B f := h.turn hB.size fun k _ hk => hB.block k hk
theorem types_ne {w : World} {b g c fg fc n k : Nat} {xs ys : List Value} (h : w.ownsRow b 3 1 (.slice (some ⟨g, 0, none⟩) n c) n xs) (h2 : w.ownsRow b 46 3 (.slice (some ⟨fg, 0, none⟩) k fc) k ys) : g ≠ fg := by
  rcases h.2 with ⟨h1, _⟩ | ⟨g', cap, cur, h1, _, h3, _⟩
  · cases h1
  · rcases h2.2 with ⟨h4, _⟩ | ⟨g2, cap2, cur2, h4, _, h5, _⟩
    · cases h4
    · cases h1; cases h4
      intro e; subst e
      rw [h3] at h5; cases h5
end Go.Proofs.YtflmllablfjfeaaDoor
namespace Go.Proofs.YtflmllablfjfeaaDoor
open Go.RowKit Go.HK Go.FR
set_option linter.unusedVariables false
set_option linter.unusedSimpArgs false
set_option linter.unusedSectionVars false
section
variable {c : Nat} {rl out ag gr : List Nat}
theorem closer_again (h : CloP c rl out) (k : CloP c out ag) : ag = out := k.unique (CloP.of_fits h.i.ok h.fits)
theorem closer_fits (h : CloP c rl out) (hc : c ≤ 7) : fitsB c out = true := by
  unfold fitsB
  rw [(lackAll_iff h.i.ok).2 h.fits, decide_eq_true hc]; rfl
theorem closer_stay (hr : FrOk rl) (h : CloP c rl out) (hc : c ≤ 7) : fitsB c rl = decide (rl = out) := by
  by_cases e : rl = out
  · subst e
    rw [closer_fits h hc, decide_eq_true rfl]
  · rw [decide_eq_false e]
    unfold fitsB
    rcases hl : lackAll c rl rl.length with _ | _
    · simp
    · exact absurd ((CloP.of_fits hr ((lackAll_iff hr).1 hl)).unique h) e
theorem closer_sub (hr : FrOk rl) (h : CloP c rl out) (w : Nat) : andn (rl.getD w 0) (out.getD w 0) = 0 :=
  (andn_zero (hr.lt32 w) (h.i.ok.lt32 w)).2 fun u hu => h.i.sub w u hu
/-- Two relations, one over the other. -/
def orR (a b : List Nat) : List Nat := List.zipWith (fun x y => x ||| y) a b
theorem orR_len {a b : List Nat} (h : a.length = b.length) : (orR a b).length = b.length := by unfold orR; rw [List.length_zipWith]; omega
theorem orR_get {a b : List Nat} {i x y : Nat} (hx : a[i]? = some x) (hy : b[i]? = some y) : (orR a b)[i]? = some (x ||| y) := by
  unfold orR
  rw [List.getElem?_zipWith, hx, hy]
theorem orR_ok {a b : List Nat} (ha : FrOk a) (hb : FrOk b) (h : a.length = b.length) : FrOk (orR a b) := ⟨by rw [orR_len h]; exact hb.len, fun w s hs => by
  have hw := (List.getElem?_eq_some_iff.1 hs).1
  rw [orR_len h] at hw
  have hx := List.getElem?_eq_getElem (l := a) (i := w) (by omega)
  have hy := List.getElem?_eq_getElem (l := b) (i := w) hw
  rw [orR_get hx hy] at hs
  cases hs
  rw [orR_len h]
  exact Nat.or_lt_two_pow (by rw [← h]; exact ha.lt w _ hx) (hb.lt w _ hy)⟩
theorem closer_great {ol : List Nat} (hr : FrOk rl) (ho : FrOk ol) (hl : ol.length = rl.length) (h : CloP c rl out) (k : CloP c (orR ol rl) gr) (w : Nat) : andn (out.getD w 0) (gr.getD w 0) = 0 := by
  have hlen : gr.length = rl.length := by rw [k.i.len, orR_len hl]
  refine (andn_zero (h.i.ok.lt32 w) (k.i.ok.lt32 w)).2 fun u hu => ?_
  refine h.i.least gr hlen k.i.ok k.fits (fun w u hu => ?_) w u hu
  refine k.i.sub w u ?_
  rcases e : rl[w]? with _ | y
  · rw [List.getD_eq_getElem?_getD, e] at hu; simp at hu
  · have hw := (List.getElem?_eq_some_iff.1 e).1
    have hx := List.getElem?_eq_getElem (l := ol) (i := w) (by omega)
    rw [List.getD_eq_getElem?_getD, orR_get hx e]
    rw [List.getD_eq_getElem?_getD, e] at hu
    simp only [Option.getD_some] at hu ⊢
    rw [Nat.testBit_or, hu, Bool.or_true]
end
end Go.Proofs.YtflmllablfjfeaaDoor
namespace Go.Proofs.YtflmllablfjfeaaDoor
open Go.RowKit Go.HK Go.FR
set_option linter.unusedVariables false
set_option linter.unusedSimpArgs false
set_option linter.unusedSectionVars false
theorem madeQ_ok (n : Nat) (h1 : 1 ≤ n) (h4 : n ≤ 4) (F : Nat → Nat) : FrOk (madeR n F n) := ⟨by rw [madeR_len]; omega, fun w s h => by
  unfold madeR at h
  rw [List.getElem?_map] at h
  rw [madeR_len]
  obtain ⟨x, _, rfl⟩ := Option.map_eq_some_iff.1 h
  exact Nat.mod_lt _ (Nat.two_pow_pos n)⟩
/-- The block of a model's relation. -/
def rb : Value → Option Nat
  | .agg a => match a[2]? with
    | some v => v.ownBlock
    | none => none
  | _ => none
/-- A model's value, its relation; ob: the other one is there, at v. -/
def MoV (m : Nat) (ob : Bool) (v : Value) (n : Nat) (rl : List Nat) (W : World) (r : Value) : Prop := ∃ (g c : Nat) (v0 v1 v3 v4 v5 v6 : Value), r = .agg #[v0, v1, .slice (some ⟨g, 0, none⟩) n c, v3, v4, v5, v6] ∧ W.ownsRow m 3 1 (.slice (some ⟨g, 0, none⟩) n c) n (ints rl) ∧ (ob = true → rb v ≠ some g)
/-- Its relation's slice. -/
def SlV (m n : Nat) (rl : List Nat) (r0 : Value) (W : World) (r : Value) : Prop := ∃ (g c : Nat), r = .slice (some ⟨g, 0, none⟩) n c ∧ W.ownsRow m 3 1 (.slice (some ⟨g, 0, none⟩) n c) n (ints rl) ∧ rb r0 = some g
section
variable {m n : Nat} {ob : Bool} {v r r0 : Value} {rl : List Nat} {W W' : World}
theorem MoV.below (h : MoV m ob v n rl W r) (hB : Below W.heap.size W W') : MoV m ob v n rl W' r := by
  obtain ⟨g, c, v0, v1, v3, v4, v5, v6, h1, h2, h3⟩ := h
  exact ⟨g, c, v0, v1, v3, v4, v5, v6, h1, own_below9 h2 hB, h3⟩
theorem SlV.below (h : SlV m n rl r0 W r) (hB : Below W.heap.size W W') : SlV m n rl r0 W' r := by
  obtain ⟨g, c, h1, h2, h3⟩ := h
  exact ⟨g, c, h1, own_below9 h2 hB, h3⟩
theorem own_from {w : World} {b g c k : Nat} {xs : List Value} (h : w.ownsRow b 3 1 (.slice (some ⟨g, 0, none⟩) k c) k xs) : b ≤ g := by
  rcases h.2 with ⟨h1, _⟩ | ⟨g', cap, cur, h1, h2, _⟩
  · cases h1
  · cases h1; exact h2
/-- What was made later lies elsewhere. -/
theorem MoV.ne {g c k : Nat} {xs : List Value} (h : MoV m ob v n rl W r) (ho : W'.ownsRow W.heap.size 3 1 (.slice (some ⟨g, 0, none⟩) k c) k xs) : rb r ≠ some g := by
  obtain ⟨g', c', v0, v1, v3, v4, v5, v6, h1, h2, h3⟩ := h
  have hl := own_lt9 h2 g' rfl
  have hg := own_from ho
  intro e
  rw [h1] at e
  have : g' = g := by simpa [rb, Value.ownBlock] using e
  omega
theorem MoV.other {g c k : Nat} {v0 v1 v3 v4 v5 v6 : Value} {xs : List Value} (h : MoV m ob v n rl W r) (ho : W'.ownsRow W.heap.size 3 1 (.slice (some ⟨g, 0, none⟩) k c) k xs) (hB : Below W.heap.size W W') : MoV m true (.agg #[v0, v1, .slice (some ⟨g, 0, none⟩) k c, v3, v4, v5, v6]) n rl W' r := by
  obtain ⟨g', c', u0, u1, u3, u4, u5, u6, h1, h2, h3⟩ := h
  have hl := own_lt9 h2 g' rfl
  have hg := own_from ho
  refine ⟨g', c', u0, u1, u3, u4, u5, u6, h1, own_below9 h2 hB, fun _ e => ?_⟩
  have : g = g' := by simpa [rb, Value.ownBlock] using e
  omega
end
/-- The first k rows are laid over. -/
def orK (ol rl : List Nat) : Nat → List Nat
  | 0 => ol
  | k + 1 => (orK ol rl k).set k (ol.getD k 0 ||| rl.getD k 0)
theorem orK_len (ol rl : List Nat) : ∀ k, (orK ol rl k).length = ol.length
  | 0 => rfl
  | k + 1 => by unfold orK; rw [List.length_set, orK_len ol rl k]
theorem orK_get (ol rl : List Nat) : ∀ k i, k ≤ ol.length → (orK ol rl k)[i]? = if i < k then some (ol.getD i 0 ||| rl.getD i 0) else ol[i]?
  | 0, i, _ => rfl
  | k + 1, i, hk => by
    unfold orK
    rw [List.getElem?_set]
    by_cases e : k = i
    · subst e
      rw [if_pos rfl, if_pos (by rw [orK_len]; omega), if_pos (by omega)]
    · rw [if_neg e, orK_get ol rl k i (by omega)]
      by_cases e2 : i < k
      · rw [if_pos e2, if_pos (by omega)]
      · rw [if_neg e2, if_neg (by omega)]
theorem orK_all {ol rl : List Nat} (h : ol.length = rl.length) : orK ol rl ol.length = orR ol rl := by
  apply List.ext_getElem?
  intro i
  rw [orK_get ol rl _ i (Nat.le_refl _)]
  by_cases hi : i < ol.length
  · rw [if_pos hi]
    have hx := List.getElem?_eq_getElem (l := ol) (i := i) hi
    have hy := List.getElem?_eq_getElem (l := rl) (i := i) (by omega)
    rw [orR_get hx hy, List.getD_eq_getElem?_getD, List.getD_eq_getElem?_getD, hx, hy]; rfl
  · rw [if_neg hi, List.getElem?_eq_none (by omega), List.getElem?_eq_none (by rw [orR_len h]; omega)]
end Go.Proofs.YtflmllablfjfeaaDoor
namespace Go.FR
open Go
set_option linter.unusedVariables false
set_option linter.unusedSimpArgs false
set_option linter.unusedSectionVars false
/-- The three axioms. -/
def axF (i : Nat) (f : Fm) : Fm := if i = 0 then Op2 6 (Op1 10 f) f else if i = 1 then Op2 6 (Op1 10 f) (Op1 10 (Op1 10 f)) else Op2 6 f (Op1 10 (Op1 11 f))
section
variable {rel : List Nat} {look : ByteArray → Option Nat} (hr : FrOk rel) (hlk : LookOk rel.length look)
include hr hlk
theorem ax_yes {i : Nat} (hi : i < 3) (hf : FitsP (1 <<< i) rel) (f : Fm) : semF false rel look (axF i f) = 2 ^ rel.length - 1 := by
  refine all_of (semF_lt hlk _) fun w hw => ?_
  rcases (by omega : i = 0 ∨ i = 1 ∨ i = 2) with rfl | rfl | rfl
  · have h := (hf w hw).1 (by decide)
    show (semF false rel look (Op2 6 (Op1 10 f) f)).testBit w = true
    rw [impm_bit hr hlk _ _ hw]
    rcases e : (semF false rel look (Op1 10 f)).testBit w with _ | _
    · rfl
    · rw [(boxm_bit hr hlk f hw).1 e w h]; rfl
  · have h := (hf w hw).2.1 (by decide)
    show (semF false rel look (Op2 6 (Op1 10 f) (Op1 10 (Op1 10 f)))).testBit w = true
    rw [impm_bit hr hlk _ _ hw]
    rcases e : (semF false rel look (Op1 10 f)).testBit w with _ | _
    · rfl
    · rw [(boxm_bit hr hlk (Op1 10 f) hw).2 fun u hu => (boxm_bit hr hlk f (hr.see hu).2).2 fun v hv => (boxm_bit hr hlk f hw).1 e v (h u v hu hv)]; rfl
  · show (semF false rel look (Op2 6 f (Op1 10 (Op1 11 f)))).testBit w = true
    rw [impm_bit hr hlk _ _ hw]
    rcases e : (semF false rel look f).testBit w with _ | _
    · rfl
    · rw [(boxm_bit hr hlk (Op1 11 f) hw).2 fun u hu => (diam_bit hr hlk f (hr.see hu).2).2 fun hall => by
        have := hall w ((hf u (hr.see hu).2).2.2 (by decide) w hu)
        rw [e] at this; cases this]; rfl
theorem ax_no {i : Nat} (hi : i < 3) {w u v : Nat} {f : Fm} (hw : w < rel.length)
    (h : (i = 0 ∧ (rel.getD w 0).testBit w = false ∧ semF false rel look f = rel.getD w 0) ∨ (i = 1 ∧ (rel.getD w 0).testBit u = true ∧ (rel.getD u 0).testBit v = true ∧ (rel.getD w 0).testBit v = false ∧ semF false rel look f = rel.getD w 0) ∨ (i = 2 ∧ (rel.getD w 0).testBit u = true ∧ (rel.getD u 0).testBit w = false ∧ semF false rel look f = 1 <<< w)) :
    semF false rel look (axF i f) ≠ 2 ^ rel.length - 1 := by
  intro he
  have hb : (semF false rel look (axF i f)).testBit w = true := by rw [he, all_test]; simp [hw]
  rcases h with ⟨rfl, h1, h2⟩ | ⟨rfl, h1, h2, h3, h4⟩ | ⟨rfl, h1, h2, h3⟩
  · have hb : (semF false rel look (Op2 6 (Op1 10 f) f)).testBit w = true := hb
    rw [impm_bit hr hlk _ _ hw, (boxm_bit hr hlk f hw).2 fun u hu => by rw [h2]; exact hu, h2, h1] at hb
    cases hb
  · have hb : (semF false rel look (Op2 6 (Op1 10 f) (Op1 10 (Op1 10 f)))).testBit w = true := hb
    rw [impm_bit hr hlk _ _ hw, (boxm_bit hr hlk f hw).2 fun u hu => by rw [h4]; exact hu] at hb
    have := (boxm_bit hr hlk f (hr.see h1).2).1 ((boxm_bit hr hlk (Op1 10 f) hw).1 (by simpa using hb) u h1) v h2
    rw [h4, h3] at this; cases this
  · have hb : (semF false rel look (Op2 6 f (Op1 10 (Op1 11 f)))).testBit w = true := hb
    have hfw : (semF false rel look f).testBit w = true := by rw [h3, shl_test]; simp
    rw [impm_bit hr hlk _ _ hw, hfw] at hb
    refine (diam_bit hr hlk f (hr.see h1).2).1 ((boxm_bit hr hlk (Op1 11 f) hw).1 (by simpa using hb) u h1) fun x hx => ?_
    rw [h3, shl_test, decide_eq_false_iff_not]
    intro e; subst e
    rw [h2] at hx; cases hx
end
/-- A mask with which the axiom is false. -/
theorem ax_mask {rel : List Nat} (hr : FrOk rel) {i : Nat} (hi : i < 3) (h : ¬ FitsP (1 <<< i) rel) : ∃ m, m ≤ 2 ^ rel.length - 1 ∧ ∀ look f, LookOk rel.length look → semF false rel look f = m → semF false rel look (axF i f) ≠ 2 ^ rel.length - 1 := by
  obtain ⟨w, hw, hn⟩ : ∃ w, w < rel.length ∧ ¬ FitsAt (1 <<< i) rel w := Classical.byContradiction fun hc => h fun w hw => Classical.byContradiction fun hn => hc ⟨w, hw, hn⟩
  have hp := Nat.two_pow_pos rel.length
  have hrow : ∀ w, w < rel.length → rel.getD w 0 < 2 ^ rel.length := fun w hw => hr.lt w _ (by rw [List.getD_eq_getElem?_getD, List.getElem?_eq_getElem hw]; rfl)
  rcases (by omega : i = 0 ∨ i = 1 ∨ i = 2) with rfl | rfl | rfl
  · refine ⟨rel.getD w 0, by have := hrow w hw; omega, fun look f hlk hm => ax_no hr hlk (u := 0) (v := 0) (by omega) hw (.inl ⟨rfl, ?_, hm⟩)⟩
    rcases e : (rel.getD w 0).testBit w with _ | _
    · rfl
    · exact absurd ⟨fun _ => e, fun h => absurd h (by decide), fun h => absurd h (by decide)⟩ hn
  · obtain ⟨u, v, h1, h2, h3⟩ : ∃ u v, (rel.getD w 0).testBit u = true ∧ (rel.getD u 0).testBit v = true ∧ (rel.getD w 0).testBit v = false := Classical.byContradiction fun hc => hn ⟨fun h => absurd h (by decide), fun _ u v h1 h2 => by
      rcases e : (rel.getD w 0).testBit v with _ | _
      · exact absurd ⟨u, v, h1, h2, e⟩ hc
      · rfl, fun h => absurd h (by decide)⟩
    exact ⟨rel.getD w 0, by have := hrow w hw; omega, fun look f hlk hm => ax_no hr hlk (by omega) hw (.inr (.inl ⟨rfl, h1, h2, h3, hm⟩))⟩
  · obtain ⟨u, h1, h2⟩ : ∃ u, (rel.getD u 0).testBit w = true ∧ (rel.getD w 0).testBit u = false := Classical.byContradiction fun hc => hn ⟨fun h => absurd h (by decide), fun h => absurd h (by decide), fun _ u h1 => by
      rcases e : (rel.getD w 0).testBit u with _ | _
      · exact absurd ⟨u, h1, e⟩ hc
      · rfl⟩
    have hu := (hr.see h1).1
    refine ⟨1 <<< u, ?_, fun look f hlk hm => ax_no hr hlk (v := 0) (by omega) hu (.inr (.inr ⟨rfl, h1, h2, hm⟩))⟩
    rw [Nat.one_shiftLeft]
    have := Nat.pow_lt_pow_right (a := 2) (by omega) hu
    omega
/-- A condition of a mask. -/
theorem fits_bit {c i : Nat} {rel : List Nat} (hi : i < 3) (hb : c.testBit i = true) (h : FitsP c rel) : FitsP (1 <<< i) rel := fun w hw => by
  have hf := h w hw
  rcases (by omega : i = 0 ∨ i = 1 ∨ i = 2) with rfl | rfl | rfl
  · exact ⟨fun _ => hf.1 hb, fun h => absurd h (by decide), fun h => absurd h (by decide)⟩
  · exact ⟨fun h => absurd h (by decide), fun _ => hf.2.1 hb, fun h => absurd h (by decide)⟩
  · exact ⟨fun h => absurd h (by decide), fun h => absurd h (by decide), fun _ => hf.2.2 hb⟩
end Go.FR
namespace Go.Proofs.YtflmllablfjfeaaDoor
open Go.RowKit Go.HK Go.FR
set_option linter.unusedVariables false
set_option linter.unusedSimpArgs false
set_option linter.unusedSectionVars false
/-- A place that is not the result's box. -/
abbrev NoX (B : Nat) (W : World) : Nat → Prop := fun k => k < W.heap.size ∧ k ≠ B
def FvX (B : Nat) (W : World) (v : Value) (f : Fm) : Prop := ∃ (o : Nat) (nm : ByteArray) (a0 : Option Addr) (a1 a2 : Nat) (s0 : Option Addr) (s1 s2 : Nat), v = .agg #[.int .u8 (o : Int), .string nm, .slice a0 a1 a2, .slice s0 s1 s2] ∧ f.op = o ∧ f.name = nm ∧ IsFm (NoX B W) W ⟨a0, a1, a2⟩ ⟨s0, s1, s2⟩ f
def FsX (B : Nat) (W : World) (v : Value) (fs : List Fm) : Prop := ∃ (s0 : Option Addr) (s1 s2 : Nat), v = .slice s0 s1 s2 ∧ IsFs (NoX B W) W ⟨s0, s1, s2⟩ fs
theorem heapX {W : World} {B k : Nat} (hk : k < W.heap.size) (hn : k ≠ B) (v0 v1 v2 v3 : Value) : ((((W.setCell ⟨B, 0, none⟩ v0).setCell ⟨B, 1, none⟩ v1).setCell ⟨B, 2, none⟩ v2).setCell ⟨B, 3, none⟩ v3).heap[k]? = W.heap[k]? := by
  have h2 : W.heap[k]? = some W.heap[k] := Array.getElem?_eq_getElem hk
  rw [h2]; exact blk4 h2 hn v0 v1 v2 v3
section
variable {B : Nat} {W W' : World} {v : Value} {f f' : Fm} {fs : List Fm}
theorem nox_up (hB : Below W.heap.size W W') : ∀ k, NoX B W k → NoX B W' k ∧ W'.heap[k]? = W.heap[k]? := fun k hk => ⟨⟨Nat.lt_of_lt_of_le hk.1 hB.size, hk.2⟩, hB.block k hk.1⟩
theorem FvX.below (h : FvX B W v f) (hB : Below W.heap.size W W') : FvX B W' v f := by
  obtain ⟨o, nm, a0, a1, a2, s0, s1, s2, h1, h2, h3, h4⟩ := h
  exact ⟨o, nm, a0, a1, a2, s0, s1, s2, h1, h2, h3, h4.turn (nox_up hB)⟩
theorem FsX.below (h : FsX B W v fs) (hB : Below W.heap.size W W') : FsX B W' v fs := by
  obtain ⟨s0, s1, s2, h1, h2⟩ := h
  exact ⟨s0, s1, s2, h1, h2.turn (nox_up hB)⟩
theorem buildX1 {o : Nat} {nm : ByteArray} {a0 : Option Addr} {a1 a2 : Nat} {s0 : Option Addr} {s1 s2 : Nat} (hb : B < W.heap.size) (h2 : f.op = o) (h3 : f.name = nm) (h : IsFm (NoX B W) W ⟨a0, a1, a2⟩ ⟨s0, s1, s2⟩ f) :
    FsX B (W.alloc (.cells #[.int .u8 (o : Int), .string nm, .slice a0 a1 a2, .slice s0 s1 s2] 35)) (.slice (some ⟨W.heap.size, 0, none⟩) 1 1) [f] := by
  have hB := below_alloc W (.cells #[.int .u8 (o : Int), .string nm, .slice a0 a1 a2, .slice s0 s1 s2] 35)
  have := join_one (op := 3) (c := 1) (p := (f, ⟨a0, a1, a2⟩, ⟨s0, s1, s2⟩)) (S := NoX B _) (by omega) (h.turn (nox_up hB)) (B := W.heap.size) ⟨by simp, by omega⟩ (by rw [HK.blk_new, ← h2, ← h3]; rfl)
  exact ⟨_, _, _, rfl, this.s⟩
theorem buildX2 {o : Nat} {nm : ByteArray} {a0 : Option Addr} {a1 a2 : Nat} {s0 : Option Addr} {s1 s2 : Nat} (hb : B < W.heap.size) (h2 : f.op = o) (h3 : f.name = nm) (h : IsFm (NoX B W) W ⟨a0, a1, a2⟩ ⟨s0, s1, s2⟩ f)
    {o' : Nat} {nm' : ByteArray} {a0' : Option Addr} {a1' a2' : Nat} {s0' : Option Addr} {s1' s2' : Nat} (h2' : f'.op = o') (h3' : f'.name = nm') (h' : IsFm (NoX B W) W ⟨a0', a1', a2'⟩ ⟨s0', s1', s2'⟩ f') :
    FsX B (W.alloc (.cells #[.int .u8 (o : Int), .string nm, .slice a0 a1 a2, .slice s0 s1 s2, .int .u8 (o' : Int), .string nm', .slice a0' a1' a2', .slice s0' s1' s2'] 35)) (.slice (some ⟨W.heap.size, 0, none⟩) 2 2) [f, f'] := by
  have hB := below_alloc W (.cells #[.int .u8 (o : Int), .string nm, .slice a0 a1 a2, .slice s0 s1 s2, .int .u8 (o' : Int), .string nm', .slice a0' a1' a2', .slice s0' s1' s2'] 35)
  have := join_two (op := 3) (c := 2) (p := (f, ⟨a0, a1, a2⟩, ⟨s0, s1, s2⟩)) (q := (f', ⟨a0', a1', a2'⟩, ⟨s0', s1', s2'⟩)) (S := NoX B _) (by omega) (h.turn (nox_up hB)) (h'.turn (nox_up hB)) (B := W.heap.size) ⟨by simp, by omega⟩ (by rw [HK.blk_new, ← h2, ← h3, ← h2', ← h3']; rfl)
  exact ⟨_, _, _, rfl, this.s⟩
/-- A formula in the result's box. -/
def BoX (B : Nat) (W : World) (f : Fm) : Prop := ∃ (o : Nat) (nm : ByteArray) (a0 : Option Addr) (a1 a2 : Nat) (s0 : Option Addr) (s1 s2 : Nat), W.heap[B]? = some (.cells #[.int .u8 (o : Int), .string nm, .slice a0 a1 a2, .slice s0 s1 s2] 35 (0, 0)) ∧ f.op = o ∧ f.name = nm ∧ IsFm (NoX B W) W ⟨a0, a1, a2⟩ ⟨s0, s1, s2⟩ f
theorem BoX.below (h : BoX B W f) (hB : Below W.heap.size W W') : BoX B W' f := by
  obtain ⟨o, nm, a0, a1, a2, s0, s1, s2, h1, h2, h3, h4⟩ := h
  exact ⟨o, nm, a0, a1, a2, s0, s1, s2, blk_up9 hB h1, h2, h3, h4.turn (nox_up hB)⟩
theorem FvX.set (h : FvX B W v f) (v0 v1 v2 v3 : Value) : FvX B ((((W.setCell ⟨B, 0, none⟩ v0).setCell ⟨B, 1, none⟩ v1).setCell ⟨B, 2, none⟩ v2).setCell ⟨B, 3, none⟩ v3) v f := by
  obtain ⟨o, nm, a0, a1, a2, s0, s1, s2, h1, h2, h3, h4⟩ := h
  exact ⟨o, nm, a0, a1, a2, s0, s1, s2, h1, h2, h3, h4.turn fun k hk => ⟨⟨by simpa using hk.1, hk.2⟩, heapX hk.1 hk.2 _ _ _ _⟩⟩
theorem FsX.set (h : FsX B W v fs) (v0 v1 v2 v3 : Value) : FsX B ((((W.setCell ⟨B, 0, none⟩ v0).setCell ⟨B, 1, none⟩ v1).setCell ⟨B, 2, none⟩ v2).setCell ⟨B, 3, none⟩ v3) v fs := by
  obtain ⟨s0, s1, s2, h1, h2⟩ := h
  exact ⟨s0, s1, s2, h1, h2.turn fun k hk => ⟨⟨by simpa using hk.1, hk.2⟩, heapX hk.1 hk.2 _ _ _ _⟩⟩
theorem joinX {op : Nat} {s0 : Option Addr} {s1 s2 : Nat} (hop : op < 256) (h : FsX B W (.slice s0 s1 s2) fs) :
    Calls Tryd.prog 15 #[.int .u8 (op : Int), .slice s0 s1 s2] W fun e w' => e = .returned (.agg #[.int .u8 (op : Int), .string ⟨#[]⟩, .slice none 0 0, .slice s0 s1 s2]) ∧ FvX B w' (.agg #[.int .u8 (op : Int), .string ⟨#[]⟩, .slice none 0 0, .slice s0 s1 s2]) (.mk op ⟨#[]⟩ [] fs) ∧ Below W.heap.size W w' := by
  refine (join_call W op s0 s1 s2).mono ?_
  rintro e w' ⟨rfl, rfl⟩
  obtain ⟨_, _, _, h1, h2⟩ := h
  injection h1 with h1 h3 h4
  subst h1 h3 h4
  have hB := below_alloc W (.cells #[.int .u8 (op : Int), .string ⟨#[]⟩, .slice none 0 0, .slice s0 s1 s2] 35)
  exact ⟨rfl, ⟨op, ⟨#[]⟩, none, 0, 0, s0, s1, s2, rfl, rfl, rfl, .nil none 0, h2.turn (nox_up hB), hop, (show (0 : Nat) ≤ maxLen by omega)⟩, hB⟩
end
set_option maxRecDepth 100000 in
set_option maxHeartbeats 16000000 in
theorem axiom_call (w : World) (i : Nat) (hi : i < 3) (v : Value) (f : Fm) (hv : IsFv w v f) :
    Calls Tryd.prog 28 #[.int .i64 (i : Int), v] w fun e w' => ∃ u, e = .returned u ∧ IsFv w' u (axF i f) ∧ Below w.heap.size w w' := by
  obtain ⟨o, nm, a0, a1, a2, s0, s1, s2, rfl, h2, h3, h4⟩ := hv
  obtain ⟨w1, hw1⟩ : ∃ w1 : World, w1 = (w.alloc (.cells #[.int .u8 (o : Int), .string nm, .slice a0 a1 a2, .slice s0 s1 s2] 35)).alloc (.cells #[.int .u8 0, .string ⟨#[]⟩, .slice none 0 0, .slice none 0 0] 35) := ⟨_, rfl⟩
  have hb1 : Below w.heap.size w w1 := by rw [hw1]; exact below_tr (below_alloc w _) (below_alloc _ _)
  have hc1 : w1.heap[w.heap.size]? = some (.cells #[.int .u8 (o : Int), .string nm, .slice a0 a1 a2, .slice s0 s1 s2] 35 (0, 0)) := by rw [hw1]; exact HK.blk_alloc (HK.blk_new _ _) _
  have hc2 : w1.heap[w.heap.size + 1]? = some (.cells #[.int .u8 0, .string ⟨#[]⟩, .slice none 0 0, .slice none 0 0] 35 (0, 0)) := by
    have := HK.blk_new (w.alloc (.cells #[.int .u8 (o : Int), .string nm, .slice a0 a1 a2, .slice s0 s1 s2] 35)) (.cells #[.int .u8 0, .string ⟨#[]⟩, .slice none 0 0, .slice none 0 0] 35)
    rw [World.size_alloc] at this
    rw [hw1]; exact this
  have HC1 : Hid (∀ W, HK.Frm (fun j => j = w.heap.size + 1) w1 W → W.heap[w.heap.size]? = some (.cells #[.int .u8 (o : Int), .string nm, .slice a0 a1 a2, .slice s0 s1 s2] 35 (0, 0))) := Lib.hid fun W h => h.heap hc1 (by omega)
  have HC2 := Lib.hid hc2
  have HX : Hid (∀ W, HK.Frm (fun j => j = w.heap.size + 1) w1 W → FvX (w.heap.size + 1) W (.agg #[.int .u8 (o : Int), .string nm, .slice a0 a1 a2, .slice s0 s1 s2]) f) := Lib.hid fun W h => ⟨o, nm, a0, a1, a2, s0, s1, s2, rfl, h2, h3, h4.turn fun k hk => ⟨⟨by have := h.size; have := hb1.size; have hk : k < w.heap.size := hk; omega, by have hk : k < w.heap.size := hk; omega⟩, ((h.block k (by have := hb1.size; have hk : k < w.heap.size := hk; omega) (by have hk : k < w.heap.size := hk; omega)).trans (hb1.block k hk))⟩⟩
  have HB1 := Lib.hid hb1
  have HSZ : Hid (w.heap.size + 1 < w1.heap.size) := Lib.hid (HK.blk_lt hc2)
  have HW1 := Lib.hid hw1
  clear h2 h3 h4 hb1 hc1 hc2
  have key : i = 0 ∨ i = 1 ∨ i = 2 := by omega
  clear hi
  rcases key with rfl | rfl | rfl
  all_goals simp only [show ((0 : Nat) : Int) = 0 from rfl, show ((1 : Nat) : Int) = 1 from rfl, show ((2 : Nat) : Int) = 2 from rfl]
  · go_enter Tryd.func28, Tryd.ntmps28
    go_upto_region 3 with (fail)
    rw [← HW1.out]
    refine Go.RE.wp_region_eachg [8, 9, 10, 11, 12, 13] (fun L x W => (HK.Frm (fun j => j = w.heap.size + 1) w1 W ∧ (L 6 = false → W.heap[w.heap.size + 1]? = some (.cells #[.int .u8 0, .string ⟨#[]⟩, .slice none 0 0, .slice none 0 0] 35 (0, 0)))) ∧ (L 0 = true → FvX (w.heap.size + 1) W (x 8) (f)) ∧ (L 1 = true → FsX (w.heap.size + 1) W (x 9) [f]) ∧ (L 2 = true → FvX (w.heap.size + 1) W (x 10) (.mk 10 ⟨#[]⟩ [] [f])) ∧ (L 3 = true → FvX (w.heap.size + 1) W (x 11) (f)) ∧ (L 4 = true → FsX (w.heap.size + 1) W (x 12) [.mk 10 ⟨#[]⟩ [] [f], f]) ∧ (L 5 = true → FvX (w.heap.size + 1) W (x 13) (.mk 6 ⟨#[]⟩ [] [.mk 10 ⟨#[]⟩ [] [f], f])) ∧ (L 6 = true → L 5 = true ∧ BoX (w.heap.size + 1) W (.mk 6 ⟨#[]⟩ [] [.mk 10 ⟨#[]⟩ [] [f], f]))) (by kernel_rfl) (by kernel_rfl) (by kernel_rfl) ?_ ((Go.RE.Each.cons ?_ (Go.RE.Each.cons ?_ (Go.RE.Each.cons ?_ (Go.RE.Each.cons ?_ (Go.RE.Each.cons ?_ (Go.RE.Each.cons ?_ (Go.RE.Each.cons ?_ Go.RE.Each.nil)))))))) ?_
    · exact fun x => ⟨⟨HK.Frm.drew (HK.Frm.refl _ _), fun _ => HC2.out⟩, fun h => (by cases h), fun h => (by cases h), fun h => (by cases h), fun h => (by cases h), fun h => (by cases h), fun h => (by cases h), fun h => (by cases h)⟩
    · intro L x a wR K hL hd hf hx hΦ hK
      obtain ⟨hI, f0, f1, f2, f3, f4, f5, f6⟩ := hΦ
      refine ⟨fun _ => ?_, fun h => absurd h (by rw [Go.RE.wanted_none rfl]; decide)⟩
      have e3 : a.tmps[3]? = some (.pointer (some ⟨w.heap.size, 0, none⟩)) := hf 3 (of_decide_eq_true (by kernel_rfl))
      clear hf hx hd
      have c := HK.blk_cell (HC1.out _ hI.1)
      have k0 := c 0
      have k1 := c 1
      have k2 := c 2
      have k3 := c 3
      clear c
      go_simp
      refine hK _ _ ?_
      exact ⟨hI, fun _ => HX.out _ hI.1, fun h => f1 h, fun h => f2 h, fun h => f3 h, fun h => f4 h, fun h => f5 h, fun h => f6 h⟩
    · intro L x a wR K hL hd hf hx hΦ hK
      obtain ⟨hI, f0, f1, f2, f3, f4, f5, f6⟩ := hΦ
      refine ⟨fun _ => ?_, fun h => absurd h (by rw [Go.RE.wanted_none rfl]; decide)⟩
      have d0 := f0 (hd 0 (by kernel_rfl))
      have e8 : a.tmps[8]? = some (x 8) := hx 0 _ 8 rfl rfl (hd 0 (by kernel_rfl))
      clear hf hx hd
      have hlt : w.heap.size + 1 < wR.heap.size := Nat.lt_of_lt_of_le HSZ.out hI.1.size
      obtain ⟨o', nm', a0', a1', a2', s0', s1', s2', hv', h2', h3', h4'⟩ := d0
      rw [hv'] at e8
      go_simp
      refine hK _ _ ?_
      exact ⟨⟨hI.1.alloc _, fun h => HK.blk_alloc (hI.2 h) _⟩, fun h => (f0 h).below (below_alloc wR _), fun _ => buildX1 hlt h2' h3' h4', fun h => (f2 h).below (below_alloc wR _), fun h => (f3 h).below (below_alloc wR _), fun h => (f4 h).below (below_alloc wR _), fun h => (f5 h).below (below_alloc wR _), fun h => ⟨(f6 h).1, (f6 h).2.below (below_alloc wR _)⟩⟩
    · intro L x a wR K hL hd hf hx hΦ hK
      obtain ⟨hI, f0, f1, f2, f3, f4, f5, f6⟩ := hΦ
      refine ⟨fun _ => ?_, fun h => absurd h (by rw [Go.RE.wanted_none rfl]; decide)⟩
      have d1 := f1 (hd 1 (by kernel_rfl))
      have e9 : a.tmps[9]? = some (x 9) := hx 1 _ 9 rfl rfl (hd 1 (by kernel_rfl))
      clear hf hx hd
      obtain ⟨z0, z1, z2, hv, h2⟩ := d1
      rw [hv] at e9
      have HC : Hid (Calls Tryd.prog 15 #[.int .u8 10, .slice z0 z1 z2] wR fun e w' => e = .returned (.agg #[.int .u8 10, .string ⟨#[]⟩, .slice none 0 0, .slice z0 z1 z2]) ∧ FvX (w.heap.size + 1) w' (.agg #[.int .u8 10, .string ⟨#[]⟩, .slice none 0 0, .slice z0 z1 z2]) (.mk 10 ⟨#[]⟩ [] [f]) ∧ Below wR.heap.size wR w') := Lib.hid (joinX (op := 10) (by omega) ⟨z0, z1, z2, rfl, h2⟩)
      go_simp
      go_at_call 15
      with_reducible refine HC.out.mono ?_
      rintro e w' ⟨rfl, hfv, hB8⟩
      simp only
      refine hK _ _ ?_
      exact ⟨⟨hI.1.trans (HK.Frm.of_below hB8 _), fun h => blk_up9 hB8 (hI.2 h)⟩, fun h => (f0 h).below hB8, fun h => (f1 h).below hB8, fun _ => hfv, fun h => (f3 h).below hB8, fun h => (f4 h).below hB8, fun h => (f5 h).below hB8, fun h => ⟨(f6 h).1, (f6 h).2.below hB8⟩⟩
    · intro L x a wR K hL hd hf hx hΦ hK
      obtain ⟨hI, f0, f1, f2, f3, f4, f5, f6⟩ := hΦ
      refine ⟨fun _ => ?_, fun h => absurd h (by rw [Go.RE.wanted_none rfl]; decide)⟩
      have e3 : a.tmps[3]? = some (.pointer (some ⟨w.heap.size, 0, none⟩)) := hf 3 (of_decide_eq_true (by kernel_rfl))
      clear hf hx hd
      have c := HK.blk_cell (HC1.out _ hI.1)
      have k0 := c 0
      have k1 := c 1
      have k2 := c 2
      have k3 := c 3
      clear c
      go_simp
      refine hK _ _ ?_
      exact ⟨hI, fun h => f0 h, fun h => f1 h, fun h => f2 h, fun _ => HX.out _ hI.1, fun h => f4 h, fun h => f5 h, fun h => f6 h⟩
    · intro L x a wR K hL hd hf hx hΦ hK
      obtain ⟨hI, f0, f1, f2, f3, f4, f5, f6⟩ := hΦ
      refine ⟨fun _ => ?_, fun h => absurd h (by rw [Go.RE.wanted_none rfl]; decide)⟩
      have d2 := f2 (hd 2 (by kernel_rfl))
      have e10 : a.tmps[10]? = some (x 10) := hx 2 _ 10 rfl rfl (hd 2 (by kernel_rfl))
      have d3 := f3 (hd 3 (by kernel_rfl))
      have e11 : a.tmps[11]? = some (x 11) := hx 3 _ 11 rfl rfl (hd 3 (by kernel_rfl))
      clear hf hx hd
      have hlt : w.heap.size + 1 < wR.heap.size := Nat.lt_of_lt_of_le HSZ.out hI.1.size
      obtain ⟨o', nm', a0', a1', a2', s0', s1', s2', hv', h2', h3', h4'⟩ := d2
      rw [hv'] at e10
      obtain ⟨o'', nm'', a0'', a1'', a2'', s0'', s1'', s2'', hv'', h2'', h3'', h4''⟩ := d3
      rw [hv''] at e11
      go_simp
      refine hK _ _ ?_
      exact ⟨⟨hI.1.alloc _, fun h => HK.blk_alloc (hI.2 h) _⟩, fun h => (f0 h).below (below_alloc wR _), fun h => (f1 h).below (below_alloc wR _), fun h => (f2 h).below (below_alloc wR _), fun h => (f3 h).below (below_alloc wR _), fun _ => buildX2 hlt h2' h3' h4' h2'' h3'' h4'', fun h => (f5 h).below (below_alloc wR _), fun h => ⟨(f6 h).1, (f6 h).2.below (below_alloc wR _)⟩⟩
    · intro L x a wR K hL hd hf hx hΦ hK
      obtain ⟨hI, f0, f1, f2, f3, f4, f5, f6⟩ := hΦ
      refine ⟨fun _ => ?_, fun h => absurd h (by rw [Go.RE.wanted_none rfl]; decide)⟩
      have d4 := f4 (hd 4 (by kernel_rfl))
      have e12 : a.tmps[12]? = some (x 12) := hx 4 _ 12 rfl rfl (hd 4 (by kernel_rfl))
      clear hf hx hd
      obtain ⟨z0, z1, z2, hv, h2⟩ := d4
      rw [hv] at e12
      have HC : Hid (Calls Tryd.prog 15 #[.int .u8 6, .slice z0 z1 z2] wR fun e w' => e = .returned (.agg #[.int .u8 6, .string ⟨#[]⟩, .slice none 0 0, .slice z0 z1 z2]) ∧ FvX (w.heap.size + 1) w' (.agg #[.int .u8 6, .string ⟨#[]⟩, .slice none 0 0, .slice z0 z1 z2]) (.mk 6 ⟨#[]⟩ [] [.mk 10 ⟨#[]⟩ [] [f], f]) ∧ Below wR.heap.size wR w') := Lib.hid (joinX (op := 6) (by omega) ⟨z0, z1, z2, rfl, h2⟩)
      go_simp
      go_at_call 15
      with_reducible refine HC.out.mono ?_
      rintro e w' ⟨rfl, hfv, hB8⟩
      simp only
      refine hK _ _ ?_
      exact ⟨⟨hI.1.trans (HK.Frm.of_below hB8 _), fun h => blk_up9 hB8 (hI.2 h)⟩, fun h => (f0 h).below hB8, fun h => (f1 h).below hB8, fun h => (f2 h).below hB8, fun h => (f3 h).below hB8, fun h => (f4 h).below hB8, fun _ => hfv, fun h => by have hh := f6 h; simp [hL] at hh⟩
    · intro L x a wR K hL hd hf hx hΦ hK
      obtain ⟨hI, f0, f1, f2, f3, f4, f5, f6⟩ := hΦ
      refine ⟨fun _ => ?_, fun h => absurd h (by rw [Go.RE.wanted_none rfl]; decide)⟩
      have e4 : a.tmps[4]? = some (.pointer (some ⟨w.heap.size + 1, 0, none⟩)) := hf 4 (of_decide_eq_true (by kernel_rfl))
      have d5 := f5 (hd 5 (by kernel_rfl))
      have e13 : a.tmps[13]? = some (x 13) := hx 5 _ 13 rfl rfl (hd 5 (by kernel_rfl))
      have rl := hd 5 (by kernel_rfl)
      clear hf hx hd
      obtain ⟨o', nm', a0', a1', a2', s0', s1', s2', hv, h2, h3, h4⟩ := d5
      rw [hv] at e13
      have hzz := hI.2 hL
      have c := HK.blk_cell hzz
      have k0 := c 0
      have k1 := c 1
      have k2 := c 2
      have k3 := c 3
      clear c
      have cf := fun i => HK.blk_frozen hzz i
      go_simp
      refine hK undef _ ?_
      exact ⟨⟨frm4 hI.1 _ _ _ _, (fun h => by cases h)⟩, fun h => (f0 h).set _ _ _ _, fun h => (f1 h).set _ _ _ _, fun h => (f2 h).set _ _ _ _, fun h => (f3 h).set _ _ _ _, fun h => (f4 h).set _ _ _ _, fun h => (f5 h).set _ _ _ _, fun _ => ⟨rl, o', nm', a0', a1', a2', s0', s1', s2', set4 hzz _ _ _ _, h2, h3, h4.turn fun k hk => ⟨⟨by simpa using hk.1, hk.2⟩, heapX hk.1 hk.2 _ _ _ _⟩⟩⟩
    · rintro x W ⟨hI, f0, f1, f2, f3, f4, f5, f6⟩
      obtain ⟨_, o', nm', a0', a1', a2', s0', s1', s2', hbk, ho, hnm, hfm⟩ := f6 rfl
      have hfr := hI.1
      clear hI f0 f1 f2 f3 f4 f5 f6
      simp only [Exit.then, Go.RE.fillL, List.any_cons, List.any_nil, Nat.beq, Bool.or_false, Bool.or_true, cond_true, cond_false, Bool.true_or, Bool.false_or]
      go_wp2_with (fail)
      refine bodyPost_ret (results_cell_row (p := 4) (ty := 35) (by kernel_rfl) _ _ (w.heap.size + 1) 35 _ (0, 0) _ rfl hbk Tryd.underlying35 rfl (by kernel_rfl)) rfl ?_
      exact ⟨_, rfl, ⟨o', nm', a0', a1', a2', s0', s1', s2', rfl, ho, hnm, hfm.turn fun k hk => ⟨hk.1, rfl⟩⟩, HB1.out.trans (hfr.below (HB1.out.size) (fun k hk => by omega))⟩
  · go_enter Tryd.func28, Tryd.ntmps28
    go_upto_region 5 with (fail)
    rw [← HW1.out]
    refine Go.RE.wp_region_eachg [16, 17, 18, 19, 20, 21, 22, 23, 24, 25] (fun L x W => (HK.Frm (fun j => j = w.heap.size + 1) w1 W ∧ (L 10 = false → W.heap[w.heap.size + 1]? = some (.cells #[.int .u8 0, .string ⟨#[]⟩, .slice none 0 0, .slice none 0 0] 35 (0, 0)))) ∧ (L 0 = true → FvX (w.heap.size + 1) W (x 16) (f)) ∧ (L 1 = true → FsX (w.heap.size + 1) W (x 17) [f]) ∧ (L 2 = true → FvX (w.heap.size + 1) W (x 18) (.mk 10 ⟨#[]⟩ [] [f])) ∧ (L 3 = true → FvX (w.heap.size + 1) W (x 19) (f)) ∧ (L 4 = true → FsX (w.heap.size + 1) W (x 20) [f]) ∧ (L 5 = true → FvX (w.heap.size + 1) W (x 21) (.mk 10 ⟨#[]⟩ [] [f])) ∧ (L 6 = true → FsX (w.heap.size + 1) W (x 22) [.mk 10 ⟨#[]⟩ [] [f]]) ∧ (L 7 = true → FvX (w.heap.size + 1) W (x 23) (.mk 10 ⟨#[]⟩ [] [.mk 10 ⟨#[]⟩ [] [f]])) ∧ (L 8 = true → FsX (w.heap.size + 1) W (x 24) [.mk 10 ⟨#[]⟩ [] [f], .mk 10 ⟨#[]⟩ [] [.mk 10 ⟨#[]⟩ [] [f]]]) ∧ (L 9 = true → FvX (w.heap.size + 1) W (x 25) (.mk 6 ⟨#[]⟩ [] [.mk 10 ⟨#[]⟩ [] [f], .mk 10 ⟨#[]⟩ [] [.mk 10 ⟨#[]⟩ [] [f]]])) ∧ (L 10 = true → L 9 = true ∧ BoX (w.heap.size + 1) W (.mk 6 ⟨#[]⟩ [] [.mk 10 ⟨#[]⟩ [] [f], .mk 10 ⟨#[]⟩ [] [.mk 10 ⟨#[]⟩ [] [f]]]))) (by kernel_rfl) (by kernel_rfl) (by kernel_rfl) ?_ ((Go.RE.Each.cons ?_ (Go.RE.Each.cons ?_ (Go.RE.Each.cons ?_ (Go.RE.Each.cons ?_ (Go.RE.Each.cons ?_ (Go.RE.Each.cons ?_ (Go.RE.Each.cons ?_ (Go.RE.Each.cons ?_ (Go.RE.Each.cons ?_ (Go.RE.Each.cons ?_ (Go.RE.Each.cons ?_ Go.RE.Each.nil)))))))))))) ?_
    · exact fun x => ⟨⟨HK.Frm.drew (HK.Frm.refl _ _), fun _ => HC2.out⟩, fun h => (by cases h), fun h => (by cases h), fun h => (by cases h), fun h => (by cases h), fun h => (by cases h), fun h => (by cases h), fun h => (by cases h), fun h => (by cases h), fun h => (by cases h), fun h => (by cases h), fun h => (by cases h)⟩
    · intro L x a wR K hL hd hf hx hΦ hK
      obtain ⟨hI, f0, f1, f2, f3, f4, f5, f6, f7, f8, f9, f10⟩ := hΦ
      refine ⟨fun _ => ?_, fun h => absurd h (by rw [Go.RE.wanted_none rfl]; decide)⟩
      have e3 : a.tmps[3]? = some (.pointer (some ⟨w.heap.size, 0, none⟩)) := hf 3 (of_decide_eq_true (by kernel_rfl))
      clear hf hx hd
      have c := HK.blk_cell (HC1.out _ hI.1)
      have k0 := c 0
      have k1 := c 1
      have k2 := c 2
      have k3 := c 3
      clear c
      go_simp
      refine hK _ _ ?_
      exact ⟨hI, fun _ => HX.out _ hI.1, fun h => f1 h, fun h => f2 h, fun h => f3 h, fun h => f4 h, fun h => f5 h, fun h => f6 h, fun h => f7 h, fun h => f8 h, fun h => f9 h, fun h => f10 h⟩
    · intro L x a wR K hL hd hf hx hΦ hK
      obtain ⟨hI, f0, f1, f2, f3, f4, f5, f6, f7, f8, f9, f10⟩ := hΦ
      refine ⟨fun _ => ?_, fun h => absurd h (by rw [Go.RE.wanted_none rfl]; decide)⟩
      have d0 := f0 (hd 0 (by kernel_rfl))
      have e16 : a.tmps[16]? = some (x 16) := hx 0 _ 16 rfl rfl (hd 0 (by kernel_rfl))
      clear hf hx hd
      have hlt : w.heap.size + 1 < wR.heap.size := Nat.lt_of_lt_of_le HSZ.out hI.1.size
      obtain ⟨o', nm', a0', a1', a2', s0', s1', s2', hv', h2', h3', h4'⟩ := d0
      rw [hv'] at e16
      go_simp
      refine hK _ _ ?_
      exact ⟨⟨hI.1.alloc _, fun h => HK.blk_alloc (hI.2 h) _⟩, fun h => (f0 h).below (below_alloc wR _), fun _ => buildX1 hlt h2' h3' h4', fun h => (f2 h).below (below_alloc wR _), fun h => (f3 h).below (below_alloc wR _), fun h => (f4 h).below (below_alloc wR _), fun h => (f5 h).below (below_alloc wR _), fun h => (f6 h).below (below_alloc wR _), fun h => (f7 h).below (below_alloc wR _), fun h => (f8 h).below (below_alloc wR _), fun h => (f9 h).below (below_alloc wR _), fun h => ⟨(f10 h).1, (f10 h).2.below (below_alloc wR _)⟩⟩
    · intro L x a wR K hL hd hf hx hΦ hK
      obtain ⟨hI, f0, f1, f2, f3, f4, f5, f6, f7, f8, f9, f10⟩ := hΦ
      refine ⟨fun _ => ?_, fun h => absurd h (by rw [Go.RE.wanted_none rfl]; decide)⟩
      have d1 := f1 (hd 1 (by kernel_rfl))
      have e17 : a.tmps[17]? = some (x 17) := hx 1 _ 17 rfl rfl (hd 1 (by kernel_rfl))
      clear hf hx hd
      obtain ⟨z0, z1, z2, hv, h2⟩ := d1
      rw [hv] at e17
      have HC : Hid (Calls Tryd.prog 15 #[.int .u8 10, .slice z0 z1 z2] wR fun e w' => e = .returned (.agg #[.int .u8 10, .string ⟨#[]⟩, .slice none 0 0, .slice z0 z1 z2]) ∧ FvX (w.heap.size + 1) w' (.agg #[.int .u8 10, .string ⟨#[]⟩, .slice none 0 0, .slice z0 z1 z2]) (.mk 10 ⟨#[]⟩ [] [f]) ∧ Below wR.heap.size wR w') := Lib.hid (joinX (op := 10) (by omega) ⟨z0, z1, z2, rfl, h2⟩)
      go_simp
      go_at_call 15
      with_reducible refine HC.out.mono ?_
      rintro e w' ⟨rfl, hfv, hB8⟩
      simp only
      refine hK _ _ ?_
      exact ⟨⟨hI.1.trans (HK.Frm.of_below hB8 _), fun h => blk_up9 hB8 (hI.2 h)⟩, fun h => (f0 h).below hB8, fun h => (f1 h).below hB8, fun _ => hfv, fun h => (f3 h).below hB8, fun h => (f4 h).below hB8, fun h => (f5 h).below hB8, fun h => (f6 h).below hB8, fun h => (f7 h).below hB8, fun h => (f8 h).below hB8, fun h => (f9 h).below hB8, fun h => ⟨(f10 h).1, (f10 h).2.below hB8⟩⟩
    · intro L x a wR K hL hd hf hx hΦ hK
      obtain ⟨hI, f0, f1, f2, f3, f4, f5, f6, f7, f8, f9, f10⟩ := hΦ
      refine ⟨fun _ => ?_, fun h => absurd h (by rw [Go.RE.wanted_none rfl]; decide)⟩
      have e3 : a.tmps[3]? = some (.pointer (some ⟨w.heap.size, 0, none⟩)) := hf 3 (of_decide_eq_true (by kernel_rfl))
      clear hf hx hd
      have c := HK.blk_cell (HC1.out _ hI.1)
      have k0 := c 0
      have k1 := c 1
      have k2 := c 2
      have k3 := c 3
      clear c
      go_simp
      refine hK _ _ ?_
      exact ⟨hI, fun h => f0 h, fun h => f1 h, fun h => f2 h, fun _ => HX.out _ hI.1, fun h => f4 h, fun h => f5 h, fun h => f6 h, fun h => f7 h, fun h => f8 h, fun h => f9 h, fun h => f10 h⟩
    · intro L x a wR K hL hd hf hx hΦ hK
      obtain ⟨hI, f0, f1, f2, f3, f4, f5, f6, f7, f8, f9, f10⟩ := hΦ
      refine ⟨fun _ => ?_, fun h => absurd h (by rw [Go.RE.wanted_none rfl]; decide)⟩
      have d3 := f3 (hd 3 (by kernel_rfl))
      have e19 : a.tmps[19]? = some (x 19) := hx 3 _ 19 rfl rfl (hd 3 (by kernel_rfl))
      clear hf hx hd
      have hlt : w.heap.size + 1 < wR.heap.size := Nat.lt_of_lt_of_le HSZ.out hI.1.size
      obtain ⟨o', nm', a0', a1', a2', s0', s1', s2', hv', h2', h3', h4'⟩ := d3
      rw [hv'] at e19
      go_simp
      refine hK _ _ ?_
      exact ⟨⟨hI.1.alloc _, fun h => HK.blk_alloc (hI.2 h) _⟩, fun h => (f0 h).below (below_alloc wR _), fun h => (f1 h).below (below_alloc wR _), fun h => (f2 h).below (below_alloc wR _), fun h => (f3 h).below (below_alloc wR _), fun _ => buildX1 hlt h2' h3' h4', fun h => (f5 h).below (below_alloc wR _), fun h => (f6 h).below (below_alloc wR _), fun h => (f7 h).below (below_alloc wR _), fun h => (f8 h).below (below_alloc wR _), fun h => (f9 h).below (below_alloc wR _), fun h => ⟨(f10 h).1, (f10 h).2.below (below_alloc wR _)⟩⟩
    · intro L x a wR K hL hd hf hx hΦ hK
      obtain ⟨hI, f0, f1, f2, f3, f4, f5, f6, f7, f8, f9, f10⟩ := hΦ
      refine ⟨fun _ => ?_, fun h => absurd h (by rw [Go.RE.wanted_none rfl]; decide)⟩
      have d4 := f4 (hd 4 (by kernel_rfl))
      have e20 : a.tmps[20]? = some (x 20) := hx 4 _ 20 rfl rfl (hd 4 (by kernel_rfl))
      clear hf hx hd
      obtain ⟨z0, z1, z2, hv, h2⟩ := d4
      rw [hv] at e20
      have HC : Hid (Calls Tryd.prog 15 #[.int .u8 10, .slice z0 z1 z2] wR fun e w' => e = .returned (.agg #[.int .u8 10, .string ⟨#[]⟩, .slice none 0 0, .slice z0 z1 z2]) ∧ FvX (w.heap.size + 1) w' (.agg #[.int .u8 10, .string ⟨#[]⟩, .slice none 0 0, .slice z0 z1 z2]) (.mk 10 ⟨#[]⟩ [] [f]) ∧ Below wR.heap.size wR w') := Lib.hid (joinX (op := 10) (by omega) ⟨z0, z1, z2, rfl, h2⟩)
      go_simp
      go_at_call 15
      with_reducible refine HC.out.mono ?_
      rintro e w' ⟨rfl, hfv, hB8⟩
      simp only
      refine hK _ _ ?_
      exact ⟨⟨hI.1.trans (HK.Frm.of_below hB8 _), fun h => blk_up9 hB8 (hI.2 h)⟩, fun h => (f0 h).below hB8, fun h => (f1 h).below hB8, fun h => (f2 h).below hB8, fun h => (f3 h).below hB8, fun h => (f4 h).below hB8, fun _ => hfv, fun h => (f6 h).below hB8, fun h => (f7 h).below hB8, fun h => (f8 h).below hB8, fun h => (f9 h).below hB8, fun h => ⟨(f10 h).1, (f10 h).2.below hB8⟩⟩
    · intro L x a wR K hL hd hf hx hΦ hK
      obtain ⟨hI, f0, f1, f2, f3, f4, f5, f6, f7, f8, f9, f10⟩ := hΦ
      refine ⟨fun _ => ?_, fun h => absurd h (by rw [Go.RE.wanted_none rfl]; decide)⟩
      have d5 := f5 (hd 5 (by kernel_rfl))
      have e21 : a.tmps[21]? = some (x 21) := hx 5 _ 21 rfl rfl (hd 5 (by kernel_rfl))
      clear hf hx hd
      have hlt : w.heap.size + 1 < wR.heap.size := Nat.lt_of_lt_of_le HSZ.out hI.1.size
      obtain ⟨o', nm', a0', a1', a2', s0', s1', s2', hv', h2', h3', h4'⟩ := d5
      rw [hv'] at e21
      go_simp
      refine hK _ _ ?_
      exact ⟨⟨hI.1.alloc _, fun h => HK.blk_alloc (hI.2 h) _⟩, fun h => (f0 h).below (below_alloc wR _), fun h => (f1 h).below (below_alloc wR _), fun h => (f2 h).below (below_alloc wR _), fun h => (f3 h).below (below_alloc wR _), fun h => (f4 h).below (below_alloc wR _), fun h => (f5 h).below (below_alloc wR _), fun _ => buildX1 hlt h2' h3' h4', fun h => (f7 h).below (below_alloc wR _), fun h => (f8 h).below (below_alloc wR _), fun h => (f9 h).below (below_alloc wR _), fun h => ⟨(f10 h).1, (f10 h).2.below (below_alloc wR _)⟩⟩
    · intro L x a wR K hL hd hf hx hΦ hK
      obtain ⟨hI, f0, f1, f2, f3, f4, f5, f6, f7, f8, f9, f10⟩ := hΦ
      refine ⟨fun _ => ?_, fun h => absurd h (by rw [Go.RE.wanted_none rfl]; decide)⟩
      have d6 := f6 (hd 6 (by kernel_rfl))
      have e22 : a.tmps[22]? = some (x 22) := hx 6 _ 22 rfl rfl (hd 6 (by kernel_rfl))
      clear hf hx hd
      obtain ⟨z0, z1, z2, hv, h2⟩ := d6
      rw [hv] at e22
      have HC : Hid (Calls Tryd.prog 15 #[.int .u8 10, .slice z0 z1 z2] wR fun e w' => e = .returned (.agg #[.int .u8 10, .string ⟨#[]⟩, .slice none 0 0, .slice z0 z1 z2]) ∧ FvX (w.heap.size + 1) w' (.agg #[.int .u8 10, .string ⟨#[]⟩, .slice none 0 0, .slice z0 z1 z2]) (.mk 10 ⟨#[]⟩ [] [.mk 10 ⟨#[]⟩ [] [f]]) ∧ Below wR.heap.size wR w') := Lib.hid (joinX (op := 10) (by omega) ⟨z0, z1, z2, rfl, h2⟩)
      go_simp
      go_at_call 15
      with_reducible refine HC.out.mono ?_
      rintro e w' ⟨rfl, hfv, hB8⟩
      simp only
      refine hK _ _ ?_
      exact ⟨⟨hI.1.trans (HK.Frm.of_below hB8 _), fun h => blk_up9 hB8 (hI.2 h)⟩, fun h => (f0 h).below hB8, fun h => (f1 h).below hB8, fun h => (f2 h).below hB8, fun h => (f3 h).below hB8, fun h => (f4 h).below hB8, fun h => (f5 h).below hB8, fun h => (f6 h).below hB8, fun _ => hfv, fun h => (f8 h).below hB8, fun h => (f9 h).below hB8, fun h => ⟨(f10 h).1, (f10 h).2.below hB8⟩⟩
    · intro L x a wR K hL hd hf hx hΦ hK
      obtain ⟨hI, f0, f1, f2, f3, f4, f5, f6, f7, f8, f9, f10⟩ := hΦ
      refine ⟨fun _ => ?_, fun h => absurd h (by rw [Go.RE.wanted_none rfl]; decide)⟩
      have d2 := f2 (hd 2 (by kernel_rfl))
      have e18 : a.tmps[18]? = some (x 18) := hx 2 _ 18 rfl rfl (hd 2 (by kernel_rfl))
      have d7 := f7 (hd 7 (by kernel_rfl))
      have e23 : a.tmps[23]? = some (x 23) := hx 7 _ 23 rfl rfl (hd 7 (by kernel_rfl))
      clear hf hx hd
      have hlt : w.heap.size + 1 < wR.heap.size := Nat.lt_of_lt_of_le HSZ.out hI.1.size
      obtain ⟨o', nm', a0', a1', a2', s0', s1', s2', hv', h2', h3', h4'⟩ := d2
      rw [hv'] at e18
      obtain ⟨o'', nm'', a0'', a1'', a2'', s0'', s1'', s2'', hv'', h2'', h3'', h4''⟩ := d7
      rw [hv''] at e23
      go_simp
      refine hK _ _ ?_
      exact ⟨⟨hI.1.alloc _, fun h => HK.blk_alloc (hI.2 h) _⟩, fun h => (f0 h).below (below_alloc wR _), fun h => (f1 h).below (below_alloc wR _), fun h => (f2 h).below (below_alloc wR _), fun h => (f3 h).below (below_alloc wR _), fun h => (f4 h).below (below_alloc wR _), fun h => (f5 h).below (below_alloc wR _), fun h => (f6 h).below (below_alloc wR _), fun h => (f7 h).below (below_alloc wR _), fun _ => buildX2 hlt h2' h3' h4' h2'' h3'' h4'', fun h => (f9 h).below (below_alloc wR _), fun h => ⟨(f10 h).1, (f10 h).2.below (below_alloc wR _)⟩⟩
    · intro L x a wR K hL hd hf hx hΦ hK
      obtain ⟨hI, f0, f1, f2, f3, f4, f5, f6, f7, f8, f9, f10⟩ := hΦ
      refine ⟨fun _ => ?_, fun h => absurd h (by rw [Go.RE.wanted_none rfl]; decide)⟩
      have d8 := f8 (hd 8 (by kernel_rfl))
      have e24 : a.tmps[24]? = some (x 24) := hx 8 _ 24 rfl rfl (hd 8 (by kernel_rfl))
      clear hf hx hd
      obtain ⟨z0, z1, z2, hv, h2⟩ := d8
      rw [hv] at e24
      have HC : Hid (Calls Tryd.prog 15 #[.int .u8 6, .slice z0 z1 z2] wR fun e w' => e = .returned (.agg #[.int .u8 6, .string ⟨#[]⟩, .slice none 0 0, .slice z0 z1 z2]) ∧ FvX (w.heap.size + 1) w' (.agg #[.int .u8 6, .string ⟨#[]⟩, .slice none 0 0, .slice z0 z1 z2]) (.mk 6 ⟨#[]⟩ [] [.mk 10 ⟨#[]⟩ [] [f], .mk 10 ⟨#[]⟩ [] [.mk 10 ⟨#[]⟩ [] [f]]]) ∧ Below wR.heap.size wR w') := Lib.hid (joinX (op := 6) (by omega) ⟨z0, z1, z2, rfl, h2⟩)
      go_simp
      go_at_call 15
      with_reducible refine HC.out.mono ?_
      rintro e w' ⟨rfl, hfv, hB8⟩
      simp only
      refine hK _ _ ?_
      exact ⟨⟨hI.1.trans (HK.Frm.of_below hB8 _), fun h => blk_up9 hB8 (hI.2 h)⟩, fun h => (f0 h).below hB8, fun h => (f1 h).below hB8, fun h => (f2 h).below hB8, fun h => (f3 h).below hB8, fun h => (f4 h).below hB8, fun h => (f5 h).below hB8, fun h => (f6 h).below hB8, fun h => (f7 h).below hB8, fun h => (f8 h).below hB8, fun _ => hfv, fun h => by have hh := f10 h; simp [hL] at hh⟩
    · intro L x a wR K hL hd hf hx hΦ hK
      obtain ⟨hI, f0, f1, f2, f3, f4, f5, f6, f7, f8, f9, f10⟩ := hΦ
      refine ⟨fun _ => ?_, fun h => absurd h (by rw [Go.RE.wanted_none rfl]; decide)⟩
      have e4 : a.tmps[4]? = some (.pointer (some ⟨w.heap.size + 1, 0, none⟩)) := hf 4 (of_decide_eq_true (by kernel_rfl))
      have d9 := f9 (hd 9 (by kernel_rfl))
      have e25 : a.tmps[25]? = some (x 25) := hx 9 _ 25 rfl rfl (hd 9 (by kernel_rfl))
      have rl := hd 9 (by kernel_rfl)
      clear hf hx hd
      obtain ⟨o', nm', a0', a1', a2', s0', s1', s2', hv, h2, h3, h4⟩ := d9
      rw [hv] at e25
      have hzz := hI.2 hL
      have c := HK.blk_cell hzz
      have k0 := c 0
      have k1 := c 1
      have k2 := c 2
      have k3 := c 3
      clear c
      have cf := fun i => HK.blk_frozen hzz i
      go_simp
      refine hK undef _ ?_
      exact ⟨⟨frm4 hI.1 _ _ _ _, (fun h => by cases h)⟩, fun h => (f0 h).set _ _ _ _, fun h => (f1 h).set _ _ _ _, fun h => (f2 h).set _ _ _ _, fun h => (f3 h).set _ _ _ _, fun h => (f4 h).set _ _ _ _, fun h => (f5 h).set _ _ _ _, fun h => (f6 h).set _ _ _ _, fun h => (f7 h).set _ _ _ _, fun h => (f8 h).set _ _ _ _, fun h => (f9 h).set _ _ _ _, fun _ => ⟨rl, o', nm', a0', a1', a2', s0', s1', s2', set4 hzz _ _ _ _, h2, h3, h4.turn fun k hk => ⟨⟨by simpa using hk.1, hk.2⟩, heapX hk.1 hk.2 _ _ _ _⟩⟩⟩
    · rintro x W ⟨hI, f0, f1, f2, f3, f4, f5, f6, f7, f8, f9, f10⟩
      obtain ⟨_, o', nm', a0', a1', a2', s0', s1', s2', hbk, ho, hnm, hfm⟩ := f10 rfl
      have hfr := hI.1
      clear hI f0 f1 f2 f3 f4 f5 f6 f7 f8 f9 f10
      simp only [Exit.then, Go.RE.fillL, List.any_cons, List.any_nil, Nat.beq, Bool.or_false, Bool.or_true, cond_true, cond_false, Bool.true_or, Bool.false_or]
      go_wp2_with (fail)
      refine bodyPost_ret (results_cell_row (p := 4) (ty := 35) (by kernel_rfl) _ _ (w.heap.size + 1) 35 _ (0, 0) _ rfl hbk Tryd.underlying35 rfl (by kernel_rfl)) rfl ?_
      exact ⟨_, rfl, ⟨o', nm', a0', a1', a2', s0', s1', s2', rfl, ho, hnm, hfm.turn fun k hk => ⟨hk.1, rfl⟩⟩, HB1.out.trans (hfr.below (HB1.out.size) (fun k hk => by omega))⟩
  · go_enter Tryd.func28, Tryd.ntmps28
    go_upto_region 6 with (fail)
    rw [← HW1.out]
    refine Go.RE.wp_region_eachg [26, 27, 28, 29, 30, 31, 32, 33] (fun L x W => (HK.Frm (fun j => j = w.heap.size + 1) w1 W ∧ (L 8 = false → W.heap[w.heap.size + 1]? = some (.cells #[.int .u8 0, .string ⟨#[]⟩, .slice none 0 0, .slice none 0 0] 35 (0, 0)))) ∧ (L 0 = true → FvX (w.heap.size + 1) W (x 26) (f)) ∧ (L 1 = true → FvX (w.heap.size + 1) W (x 27) (f)) ∧ (L 2 = true → FsX (w.heap.size + 1) W (x 28) [f]) ∧ (L 3 = true → FvX (w.heap.size + 1) W (x 29) (.mk 11 ⟨#[]⟩ [] [f])) ∧ (L 4 = true → FsX (w.heap.size + 1) W (x 30) [.mk 11 ⟨#[]⟩ [] [f]]) ∧ (L 5 = true → FvX (w.heap.size + 1) W (x 31) (.mk 10 ⟨#[]⟩ [] [.mk 11 ⟨#[]⟩ [] [f]])) ∧ (L 6 = true → FsX (w.heap.size + 1) W (x 32) [f, .mk 10 ⟨#[]⟩ [] [.mk 11 ⟨#[]⟩ [] [f]]]) ∧ (L 7 = true → FvX (w.heap.size + 1) W (x 33) (.mk 6 ⟨#[]⟩ [] [f, .mk 10 ⟨#[]⟩ [] [.mk 11 ⟨#[]⟩ [] [f]]])) ∧ (L 8 = true → L 7 = true ∧ BoX (w.heap.size + 1) W (.mk 6 ⟨#[]⟩ [] [f, .mk 10 ⟨#[]⟩ [] [.mk 11 ⟨#[]⟩ [] [f]]]))) (by kernel_rfl) (by kernel_rfl) (by kernel_rfl) ?_ ((Go.RE.Each.cons ?_ (Go.RE.Each.cons ?_ (Go.RE.Each.cons ?_ (Go.RE.Each.cons ?_ (Go.RE.Each.cons ?_ (Go.RE.Each.cons ?_ (Go.RE.Each.cons ?_ (Go.RE.Each.cons ?_ (Go.RE.Each.cons ?_ Go.RE.Each.nil)))))))))) ?_
    · exact fun x => ⟨⟨HK.Frm.drew (HK.Frm.refl _ _), fun _ => HC2.out⟩, fun h => (by cases h), fun h => (by cases h), fun h => (by cases h), fun h => (by cases h), fun h => (by cases h), fun h => (by cases h), fun h => (by cases h), fun h => (by cases h), fun h => (by cases h)⟩
    · intro L x a wR K hL hd hf hx hΦ hK
      obtain ⟨hI, f0, f1, f2, f3, f4, f5, f6, f7, f8⟩ := hΦ
      refine ⟨fun _ => ?_, fun h => absurd h (by rw [Go.RE.wanted_none rfl]; decide)⟩
      have e3 : a.tmps[3]? = some (.pointer (some ⟨w.heap.size, 0, none⟩)) := hf 3 (of_decide_eq_true (by kernel_rfl))
      clear hf hx hd
      have c := HK.blk_cell (HC1.out _ hI.1)
      have k0 := c 0
      have k1 := c 1
      have k2 := c 2
      have k3 := c 3
      clear c
      go_simp
      refine hK _ _ ?_
      exact ⟨hI, fun _ => HX.out _ hI.1, fun h => f1 h, fun h => f2 h, fun h => f3 h, fun h => f4 h, fun h => f5 h, fun h => f6 h, fun h => f7 h, fun h => f8 h⟩
    · intro L x a wR K hL hd hf hx hΦ hK
      obtain ⟨hI, f0, f1, f2, f3, f4, f5, f6, f7, f8⟩ := hΦ
      refine ⟨fun _ => ?_, fun h => absurd h (by rw [Go.RE.wanted_none rfl]; decide)⟩
      have e3 : a.tmps[3]? = some (.pointer (some ⟨w.heap.size, 0, none⟩)) := hf 3 (of_decide_eq_true (by kernel_rfl))
      clear hf hx hd
      have c := HK.blk_cell (HC1.out _ hI.1)
      have k0 := c 0
      have k1 := c 1
      have k2 := c 2
      have k3 := c 3
      clear c
      go_simp
      refine hK _ _ ?_
      exact ⟨hI, fun h => f0 h, fun _ => HX.out _ hI.1, fun h => f2 h, fun h => f3 h, fun h => f4 h, fun h => f5 h, fun h => f6 h, fun h => f7 h, fun h => f8 h⟩
    · intro L x a wR K hL hd hf hx hΦ hK
      obtain ⟨hI, f0, f1, f2, f3, f4, f5, f6, f7, f8⟩ := hΦ
      refine ⟨fun _ => ?_, fun h => absurd h (by rw [Go.RE.wanted_none rfl]; decide)⟩
      have d1 := f1 (hd 1 (by kernel_rfl))
      have e27 : a.tmps[27]? = some (x 27) := hx 1 _ 27 rfl rfl (hd 1 (by kernel_rfl))
      clear hf hx hd
      have hlt : w.heap.size + 1 < wR.heap.size := Nat.lt_of_lt_of_le HSZ.out hI.1.size
      obtain ⟨o', nm', a0', a1', a2', s0', s1', s2', hv', h2', h3', h4'⟩ := d1
      rw [hv'] at e27
      go_simp
      refine hK _ _ ?_
      exact ⟨⟨hI.1.alloc _, fun h => HK.blk_alloc (hI.2 h) _⟩, fun h => (f0 h).below (below_alloc wR _), fun h => (f1 h).below (below_alloc wR _), fun _ => buildX1 hlt h2' h3' h4', fun h => (f3 h).below (below_alloc wR _), fun h => (f4 h).below (below_alloc wR _), fun h => (f5 h).below (below_alloc wR _), fun h => (f6 h).below (below_alloc wR _), fun h => (f7 h).below (below_alloc wR _), fun h => ⟨(f8 h).1, (f8 h).2.below (below_alloc wR _)⟩⟩
    · intro L x a wR K hL hd hf hx hΦ hK
      obtain ⟨hI, f0, f1, f2, f3, f4, f5, f6, f7, f8⟩ := hΦ
      refine ⟨fun _ => ?_, fun h => absurd h (by rw [Go.RE.wanted_none rfl]; decide)⟩
      have d2 := f2 (hd 2 (by kernel_rfl))
      have e28 : a.tmps[28]? = some (x 28) := hx 2 _ 28 rfl rfl (hd 2 (by kernel_rfl))
      clear hf hx hd
      obtain ⟨z0, z1, z2, hv, h2⟩ := d2
      rw [hv] at e28
      have HC : Hid (Calls Tryd.prog 15 #[.int .u8 11, .slice z0 z1 z2] wR fun e w' => e = .returned (.agg #[.int .u8 11, .string ⟨#[]⟩, .slice none 0 0, .slice z0 z1 z2]) ∧ FvX (w.heap.size + 1) w' (.agg #[.int .u8 11, .string ⟨#[]⟩, .slice none 0 0, .slice z0 z1 z2]) (.mk 11 ⟨#[]⟩ [] [f]) ∧ Below wR.heap.size wR w') := Lib.hid (joinX (op := 11) (by omega) ⟨z0, z1, z2, rfl, h2⟩)
      go_simp
      go_at_call 15
      with_reducible refine HC.out.mono ?_
      rintro e w' ⟨rfl, hfv, hB8⟩
      simp only
      refine hK _ _ ?_
      exact ⟨⟨hI.1.trans (HK.Frm.of_below hB8 _), fun h => blk_up9 hB8 (hI.2 h)⟩, fun h => (f0 h).below hB8, fun h => (f1 h).below hB8, fun h => (f2 h).below hB8, fun _ => hfv, fun h => (f4 h).below hB8, fun h => (f5 h).below hB8, fun h => (f6 h).below hB8, fun h => (f7 h).below hB8, fun h => ⟨(f8 h).1, (f8 h).2.below hB8⟩⟩
    · intro L x a wR K hL hd hf hx hΦ hK
      obtain ⟨hI, f0, f1, f2, f3, f4, f5, f6, f7, f8⟩ := hΦ
      refine ⟨fun _ => ?_, fun h => absurd h (by rw [Go.RE.wanted_none rfl]; decide)⟩
      have d3 := f3 (hd 3 (by kernel_rfl))
      have e29 : a.tmps[29]? = some (x 29) := hx 3 _ 29 rfl rfl (hd 3 (by kernel_rfl))
      clear hf hx hd
      have hlt : w.heap.size + 1 < wR.heap.size := Nat.lt_of_lt_of_le HSZ.out hI.1.size
      obtain ⟨o', nm', a0', a1', a2', s0', s1', s2', hv', h2', h3', h4'⟩ := d3
      rw [hv'] at e29
      go_simp
      refine hK _ _ ?_
      exact ⟨⟨hI.1.alloc _, fun h => HK.blk_alloc (hI.2 h) _⟩, fun h => (f0 h).below (below_alloc wR _), fun h => (f1 h).below (below_alloc wR _), fun h => (f2 h).below (below_alloc wR _), fun h => (f3 h).below (below_alloc wR _), fun _ => buildX1 hlt h2' h3' h4', fun h => (f5 h).below (below_alloc wR _), fun h => (f6 h).below (below_alloc wR _), fun h => (f7 h).below (below_alloc wR _), fun h => ⟨(f8 h).1, (f8 h).2.below (below_alloc wR _)⟩⟩
    · intro L x a wR K hL hd hf hx hΦ hK
      obtain ⟨hI, f0, f1, f2, f3, f4, f5, f6, f7, f8⟩ := hΦ
      refine ⟨fun _ => ?_, fun h => absurd h (by rw [Go.RE.wanted_none rfl]; decide)⟩
      have d4 := f4 (hd 4 (by kernel_rfl))
      have e30 : a.tmps[30]? = some (x 30) := hx 4 _ 30 rfl rfl (hd 4 (by kernel_rfl))
      clear hf hx hd
      obtain ⟨z0, z1, z2, hv, h2⟩ := d4
      rw [hv] at e30
      have HC : Hid (Calls Tryd.prog 15 #[.int .u8 10, .slice z0 z1 z2] wR fun e w' => e = .returned (.agg #[.int .u8 10, .string ⟨#[]⟩, .slice none 0 0, .slice z0 z1 z2]) ∧ FvX (w.heap.size + 1) w' (.agg #[.int .u8 10, .string ⟨#[]⟩, .slice none 0 0, .slice z0 z1 z2]) (.mk 10 ⟨#[]⟩ [] [.mk 11 ⟨#[]⟩ [] [f]]) ∧ Below wR.heap.size wR w') := Lib.hid (joinX (op := 10) (by omega) ⟨z0, z1, z2, rfl, h2⟩)
      go_simp
      go_at_call 15
      with_reducible refine HC.out.mono ?_
      rintro e w' ⟨rfl, hfv, hB8⟩
      simp only
      refine hK _ _ ?_
      exact ⟨⟨hI.1.trans (HK.Frm.of_below hB8 _), fun h => blk_up9 hB8 (hI.2 h)⟩, fun h => (f0 h).below hB8, fun h => (f1 h).below hB8, fun h => (f2 h).below hB8, fun h => (f3 h).below hB8, fun h => (f4 h).below hB8, fun _ => hfv, fun h => (f6 h).below hB8, fun h => (f7 h).below hB8, fun h => ⟨(f8 h).1, (f8 h).2.below hB8⟩⟩
    · intro L x a wR K hL hd hf hx hΦ hK
      obtain ⟨hI, f0, f1, f2, f3, f4, f5, f6, f7, f8⟩ := hΦ
      refine ⟨fun _ => ?_, fun h => absurd h (by rw [Go.RE.wanted_none rfl]; decide)⟩
      have d0 := f0 (hd 0 (by kernel_rfl))
      have e26 : a.tmps[26]? = some (x 26) := hx 0 _ 26 rfl rfl (hd 0 (by kernel_rfl))
      have d5 := f5 (hd 5 (by kernel_rfl))
      have e31 : a.tmps[31]? = some (x 31) := hx 5 _ 31 rfl rfl (hd 5 (by kernel_rfl))
      clear hf hx hd
      have hlt : w.heap.size + 1 < wR.heap.size := Nat.lt_of_lt_of_le HSZ.out hI.1.size
      obtain ⟨o', nm', a0', a1', a2', s0', s1', s2', hv', h2', h3', h4'⟩ := d0
      rw [hv'] at e26
      obtain ⟨o'', nm'', a0'', a1'', a2'', s0'', s1'', s2'', hv'', h2'', h3'', h4''⟩ := d5
      rw [hv''] at e31
      go_simp
      refine hK _ _ ?_
      exact ⟨⟨hI.1.alloc _, fun h => HK.blk_alloc (hI.2 h) _⟩, fun h => (f0 h).below (below_alloc wR _), fun h => (f1 h).below (below_alloc wR _), fun h => (f2 h).below (below_alloc wR _), fun h => (f3 h).below (below_alloc wR _), fun h => (f4 h).below (below_alloc wR _), fun h => (f5 h).below (below_alloc wR _), fun _ => buildX2 hlt h2' h3' h4' h2'' h3'' h4'', fun h => (f7 h).below (below_alloc wR _), fun h => ⟨(f8 h).1, (f8 h).2.below (below_alloc wR _)⟩⟩
    · intro L x a wR K hL hd hf hx hΦ hK
      obtain ⟨hI, f0, f1, f2, f3, f4, f5, f6, f7, f8⟩ := hΦ
      refine ⟨fun _ => ?_, fun h => absurd h (by rw [Go.RE.wanted_none rfl]; decide)⟩
      have d6 := f6 (hd 6 (by kernel_rfl))
      have e32 : a.tmps[32]? = some (x 32) := hx 6 _ 32 rfl rfl (hd 6 (by kernel_rfl))
      clear hf hx hd
      obtain ⟨z0, z1, z2, hv, h2⟩ := d6
      rw [hv] at e32
      have HC : Hid (Calls Tryd.prog 15 #[.int .u8 6, .slice z0 z1 z2] wR fun e w' => e = .returned (.agg #[.int .u8 6, .string ⟨#[]⟩, .slice none 0 0, .slice z0 z1 z2]) ∧ FvX (w.heap.size + 1) w' (.agg #[.int .u8 6, .string ⟨#[]⟩, .slice none 0 0, .slice z0 z1 z2]) (.mk 6 ⟨#[]⟩ [] [f, .mk 10 ⟨#[]⟩ [] [.mk 11 ⟨#[]⟩ [] [f]]]) ∧ Below wR.heap.size wR w') := Lib.hid (joinX (op := 6) (by omega) ⟨z0, z1, z2, rfl, h2⟩)
      go_simp
      go_at_call 15
      with_reducible refine HC.out.mono ?_
      rintro e w' ⟨rfl, hfv, hB8⟩
      simp only
      refine hK _ _ ?_
      exact ⟨⟨hI.1.trans (HK.Frm.of_below hB8 _), fun h => blk_up9 hB8 (hI.2 h)⟩, fun h => (f0 h).below hB8, fun h => (f1 h).below hB8, fun h => (f2 h).below hB8, fun h => (f3 h).below hB8, fun h => (f4 h).below hB8, fun h => (f5 h).below hB8, fun h => (f6 h).below hB8, fun _ => hfv, fun h => by have hh := f8 h; simp [hL] at hh⟩
    · intro L x a wR K hL hd hf hx hΦ hK
      obtain ⟨hI, f0, f1, f2, f3, f4, f5, f6, f7, f8⟩ := hΦ
      refine ⟨fun _ => ?_, fun h => absurd h (by rw [Go.RE.wanted_none rfl]; decide)⟩
      have e4 : a.tmps[4]? = some (.pointer (some ⟨w.heap.size + 1, 0, none⟩)) := hf 4 (of_decide_eq_true (by kernel_rfl))
      have d7 := f7 (hd 7 (by kernel_rfl))
      have e33 : a.tmps[33]? = some (x 33) := hx 7 _ 33 rfl rfl (hd 7 (by kernel_rfl))
      have rl := hd 7 (by kernel_rfl)
      clear hf hx hd
      obtain ⟨o', nm', a0', a1', a2', s0', s1', s2', hv, h2, h3, h4⟩ := d7
      rw [hv] at e33
      have hzz := hI.2 hL
      have c := HK.blk_cell hzz
      have k0 := c 0
      have k1 := c 1
      have k2 := c 2
      have k3 := c 3
      clear c
      have cf := fun i => HK.blk_frozen hzz i
      go_simp
      refine hK undef _ ?_
      exact ⟨⟨frm4 hI.1 _ _ _ _, (fun h => by cases h)⟩, fun h => (f0 h).set _ _ _ _, fun h => (f1 h).set _ _ _ _, fun h => (f2 h).set _ _ _ _, fun h => (f3 h).set _ _ _ _, fun h => (f4 h).set _ _ _ _, fun h => (f5 h).set _ _ _ _, fun h => (f6 h).set _ _ _ _, fun h => (f7 h).set _ _ _ _, fun _ => ⟨rl, o', nm', a0', a1', a2', s0', s1', s2', set4 hzz _ _ _ _, h2, h3, h4.turn fun k hk => ⟨⟨by simpa using hk.1, hk.2⟩, heapX hk.1 hk.2 _ _ _ _⟩⟩⟩
    · rintro x W ⟨hI, f0, f1, f2, f3, f4, f5, f6, f7, f8⟩
      obtain ⟨_, o', nm', a0', a1', a2', s0', s1', s2', hbk, ho, hnm, hfm⟩ := f8 rfl
      have hfr := hI.1
      clear hI f0 f1 f2 f3 f4 f5 f6 f7 f8
      simp only [Exit.then, Go.RE.fillL, List.any_cons, List.any_nil, Nat.beq, Bool.or_false, Bool.or_true, cond_true, cond_false, Bool.true_or, Bool.false_or]
      go_wp2_with (fail)
      refine bodyPost_ret (results_cell_row (p := 4) (ty := 35) (by kernel_rfl) _ _ (w.heap.size + 1) 35 _ (0, 0) _ rfl hbk Tryd.underlying35 rfl (by kernel_rfl)) rfl ?_
      exact ⟨_, rfl, ⟨o', nm', a0', a1', a2', s0', s1', s2', rfl, ho, hnm, hfm.turn fun k hk => ⟨hk.1, rfl⟩⟩, HB1.out.trans (hfr.below (HB1.out.size) (fun k hk => by omega))⟩
end Go.Proofs.YtflmllablfjfeaaDoor
namespace Go.Proofs.YtflmllablfjfeaaDoor
open Go.RowKit Go.HK Go.FR
set_option linter.unusedVariables false
set_option linter.unusedSimpArgs false
set_option linter.unusedSectionVars false
/-- The model in its box, from its rows. -/
theorem mb_of4 {W : World} {B b g c fg fc n : Nat} {rl : List Nat} {U : Nat → Nat} {x y z : Nat}
    (hb : W.heap[B]? = some (.cells #[.int .u8 4, .int .i64 (n : Int), .slice (some ⟨g, 0, none⟩) n c, .int .i64 0, .slice (some ⟨fg, 0, none⟩) 3 fc, .slice none 0 0, .slice none 0 0] 30 (0, 0)))
    (hR : W.ownsRow b 3 1 (.slice (some ⟨g, 0, none⟩) n c) n (ints rl)) (hn : rl.length = n) (hf : FcB fg U W) (e0 : U 0 = x) (e1 : U 1 = y) (e2 : U 2 = z) : MB W B (mdl 4 n rl [x, y, z]) := by
  have hg : g < W.heap.size := own_lt9 hR g rfl
  obtain ⟨arr, h1, h2⟩ := hf
  have hfg := HK.blk_lt h1
  refine ⟨4, n, 0, some ⟨g, 0, none⟩, n, c, some ⟨fg, 0, none⟩, 3, fc, none, 0, 0, none, 0, 0, hb, rfl, rfl, rfl, ⟨⟨?_, fun i x hx => ?_⟩, ⟨rfl, fun i f hf => ?_⟩, rfl, rfl, by show (4 : Nat) < 256; omega, by show (3 : Nat) ≤ 1000000000; omega⟩⟩
  · show n = _; unfold mdl; rw [List.length_map]; exact hn.symm
  · exact ⟨g, 0, rfl, hg, (isR_own hR).z i x hx⟩
  · have hi : i < 3 := (List.getElem?_eq_some_iff.1 hf).1
    obtain ⟨a, d, e⟩ := h2 i hi
    refine ⟨fg, 0, rfl, hfg, ?_⟩
    rw [Nat.zero_add, HK.blk_cell h1, HK.blk_cell h1, HK.blk_cell h1]
    unfold mdl at hf
    rcases (by omega : i = 0 ∨ i = 1 ∨ i = 2) with rfl | rfl | rfl
    · simp only [factL, List.getElem?_cons_zero, Option.some.injEq] at hf; subst hf; rw [← e0]; exact ⟨a, d, e, pqr_size _ (by omega)⟩
    · simp only [factL, List.getElem?_cons_zero, List.getElem?_cons_succ, Option.some.injEq] at hf; subst hf; rw [← e1]; exact ⟨a, d, e, pqr_size _ (by omega)⟩
    · simp only [factL, List.getElem?_cons_zero, List.getElem?_cons_succ, Option.some.injEq] at hf; subst hf; rw [← e2]; exact ⟨a, d, e, pqr_size _ (by omega)⟩
theorem suits_any (rel : List Nat) (k : Nat) : suitsB false 0 rel k = true := by
  unfold suitsB
  rw [lackAll_zero]; rfl
/-- A model with a closed relation is a frame. -/
theorem mdl4_ok {n : Nat} {rl : List Nat} {a b c : Nat} (hr : FrOk rl) (hn : rl.length = n) (h1 : 1 ≤ n) (ha : a < 2 ^ n) (hb : b < 2 ^ n) (hc : c < 2 ^ n) : (mdl 4 n rl [a, b, c]).ok = true :=
  mdl_ok (.inr rfl) hr hn h1 (suits_any _ _) fun m hm => ⟨by rw [hn]; rcases hm with rfl | rfl | rfl <;> assumption, fun h => by cases h⟩
/-- The axioms are plain. -/
theorem pln_ax {i : Nat} {f : Fm} (h : plnF true f = true) : plnF true (axF i f) = true := by
  have k10 := pln_one (modal := true) (op := 10) (.inr ⟨rfl, .inl rfl⟩) h
  have k11 := pln_one (modal := true) (op := 11) (.inr ⟨rfl, .inr rfl⟩) h
  unfold axF
  split
  · exact pln_two (op := 6) (by omega) k10 h
  · split
    · exact pln_two (op := 6) (by omega) k10 (pln_one (op := 10) (.inr ⟨rfl, .inl rfl⟩) k10)
    · exact pln_two (op := 6) (by omega) h (pln_one (op := 10) (.inr ⟨rfl, .inl rfl⟩) k11)
theorem ax_size {i : Nat} {f : Fm} (hd : depthF f ≤ 20) (hn : nodesF f ≤ 40) : depthF (axF i f) ≤ 40 ∧ nodesF (axF i f) ≤ 400 := by
  unfold axF
  split
  · rw [depth_two, depth_one, nodes_two, nodes_one]; omega
  · split
    · rw [depth_two, depth_one, depth_one, depth_one, nodes_two, nodes_one, nodes_one, nodes_one]; omega
    · rw [depth_two, depth_one, depth_one, nodes_two, nodes_one, nodes_one]; omega
/-- At's premises for an axiom. -/
theorem ax_at {i n : Nat} {rl : List Nat} {a b c : Nat} {f : Fm} (h : plnF true f = true) (hd : depthF f ≤ 20) (hn : nodesF f ≤ 40) : AtIs (mdl 4 n rl [a, b, c]) (axF i f) (semF false rl (look3 a b c) (axF i f)) :=
  pln_at (modal := true) (fun _ => rfl) (pln_ax h) (ax_size hd hn).1 (ax_size hd hn).2 rfl
/-- No mask below k has another value. -/
def alwB (i : Nat) (rl : List Nat) (b c ev : Nat) : Nat → Bool
  | 0 => true
  | k + 1 => alwB i rl b c ev k && decide (semF false rl (look3 k b c) (axF i (AtomF (pqr 0))) = ev)
theorem alwB_iff {i : Nat} {rl : List Nat} {b c ev : Nat} : ∀ k, alwB i rl b c ev k = true ↔ ∀ m, m < k → semF false rl (look3 m b c) (axF i (AtomF (pqr 0))) = ev
  | 0 => by simp [alwB]
  | k + 1 => by
    unfold alwB
    rw [Bool.and_eq_true, alwB_iff k, decide_eq_true_iff]
    constructor
    · intro h m hm
      by_cases e : m = k
      · subst e; exact h.2
      · exact h.1 m (by omega)
    · intro h
      exact ⟨fun m hm => h m (by omega), h k (by omega)⟩
theorem sem_atomP (rl : List Nat) (a b c : Nat) : semF false rl (look3 a b c) (AtomF (pqr 0)) = a := by
  unfold AtomF semF nodeS
  simp [look3]
end Go.Proofs.YtflmllablfjfeaaDoor
