/- Frame: two formulas built and boxed in one drawn region: rows that are no box's. -/
import Derived.Test.YtflmllablfjfeaaDoorPli
namespace Go.Proofs.YtflmllablfjfeaaDoor
open Go.RowKit Go.HK Go.FR
set_option linter.unusedVariables false
set_option linter.unusedSimpArgs false
set_option linter.unusedSectionVars false
abbrev ptr0 (B : Nat) : Value := .pointer (some ⟨B, 0, none⟩)
/-- A place that is none of the two boxes', and not elder than m. -/
def NoB (m : Nat) (b c : Bool) (p q : Value) (W : World) (k : Nat) : Prop := k < W.heap.size ∧ (b = true → p ≠ ptr0 k) ∧ (c = true → q ≠ ptr0 k) ∧ m ≤ k
/-- A formula's value that lies in none of the two boxes. -/
def FvN (m : Nat) (b c : Bool) (p q : Value) (W : World) (v : Value) (f : Fm) : Prop := ∃ (o : Nat) (nm : ByteArray) (a0 : Option Addr) (a1 a2 : Nat) (s0 : Option Addr) (s1 s2 : Nat), v = .agg #[.int .u8 (o : Int), .string nm, .slice a0 a1 a2, .slice s0 s1 s2] ∧ f.op = o ∧ f.name = nm ∧ IsFm (NoB m b c p q W) W ⟨a0, a1, a2⟩ ⟨s0, s1, s2⟩ f
/-- A box of four cells; ob: the other one is there, at v. -/
def BxN (m : Nat) (ob : Bool) (v : Value) (W : World) (r : Value) : Prop := ∃ (B : Nat) (c0 c1 c2 c3 : Value), r = ptr0 B ∧ W.heap[B]? = some (.cells #[c0, c1, c2, c3] 35 (0, 0)) ∧ m ≤ B ∧ (ob = true → v ≠ r)
/-- A box with a formula. -/
def FmN (b c : Bool) (p q : Value) (m : Nat) (ob : Bool) (v : Value) (W : World) (r : Value) (f : Fm) : Prop := ∃ (B : Nat) (o : Nat) (nm : ByteArray) (a0 : Option Addr) (a1 a2 : Nat) (s0 : Option Addr) (s1 s2 : Nat), r = ptr0 B ∧ W.heap[B]? = some (.cells #[.int .u8 (o : Int), .string nm, .slice a0 a1 a2, .slice s0 s1 s2] 35 (0, 0)) ∧ m ≤ B ∧ (ob = true → v ≠ r) ∧ f.op = o ∧ f.name = nm ∧ IsFm (NoB m b c p q W) W ⟨a0, a1, a2⟩ ⟨s0, s1, s2⟩ f
theorem ptr0_ne {W : World} {B : Nat} {o : Obj} (h : W.heap[B]? = some o) : ptr0 B ≠ ptr0 W.heap.size := fun e => by
  have := HK.blk_lt h
  simp [ptr0] at e <;> omega
abbrev set5 (w : World) (b : Nat) (v0 v1 v2 v3 : Value) : World := (((w.setCell ⟨b, 0, none⟩ v0).setCell ⟨b, 1, none⟩ v1).setCell ⟨b, 2, none⟩ v2).setCell ⟨b, 3, none⟩ v3
theorem below4 {q W : World} {B : Nat} (h : Below q.heap.size q W) (hB : q.heap.size ≤ B) (v0 v1 v2 v3 : Value) : Below q.heap.size q (set5 W B v0 v1 v2 v3) :=
  (frm4 (HK.Frm.of_below h (fun j => j = B)) v0 v1 v2 v3).below (Nat.le_refl _) (fun j hj => by omega)
theorem heap5 {W : World} {B k : Nat} (hk : k < W.heap.size) (hn : k ≠ B) (v0 v1 v2 v3 : Value) : (set5 W B v0 v1 v2 v3).heap[k]? = W.heap[k]? := by
  have h := List.getElem?_eq_getElem (l := W.heap.toList) (i := k) (by simpa using hk)
  have h2 : W.heap[k]? = some W.heap[k] := Array.getElem?_eq_getElem hk
  rw [h2]; exact blk4 h2 hn v0 v1 v2 v3
section
variable {b c ob : Bool} {p q v r u : Value} {W W' : World} {m : Nat} {f : Fm}
theorem FvN.below (h : FvN m b c p q W u f) (hB : Below W.heap.size W W') : FvN m b c p q W' u f := by
  obtain ⟨o, nm, a0, a1, a2, s0, s1, s2, h1, h2, h3, h4⟩ := h
  exact ⟨o, nm, a0, a1, a2, s0, s1, s2, h1, h2, h3, h4.turn fun k hk => ⟨⟨Nat.lt_of_lt_of_le hk.1 hB.size, hk.2⟩, hB.block k hk.1⟩⟩
theorem FvN.al1 (h : FvN m b c p q W u f) (o : Obj) : FvN m true c (ptr0 W.heap.size) q (W.alloc o) u f := by
  obtain ⟨o', nm, a0, a1, a2, s0, s1, s2, h1, h2, h3, h4⟩ := h
  have hB := below_alloc W o
  exact ⟨o', nm, a0, a1, a2, s0, s1, s2, h1, h2, h3, h4.turn fun k hk => ⟨⟨Nat.lt_of_lt_of_le hk.1 hB.size, (fun _ e => by have := hk.1; simp [ptr0] at e <;> omega), hk.2.2⟩, hB.block k hk.1⟩⟩
theorem FvN.al2 (h : FvN m b c p q W u f) (o : Obj) : FvN m b true p (ptr0 W.heap.size) (W.alloc o) u f := by
  obtain ⟨o', nm, a0, a1, a2, s0, s1, s2, h1, h2, h3, h4⟩ := h
  have hB := below_alloc W o
  exact ⟨o', nm, a0, a1, a2, s0, s1, s2, h1, h2, h3, h4.turn fun k hk => ⟨⟨Nat.lt_of_lt_of_le hk.1 hB.size, hk.2.1, (fun _ e => by have := hk.1; simp [ptr0] at e <;> omega), hk.2.2.2⟩, hB.block k hk.1⟩⟩
theorem nob_set {B : Nat} (hn : (b = true ∧ p = ptr0 B) ∨ (c = true ∧ q = ptr0 B)) {a s : SL} (h : IsFm (NoB m b c p q W) W a s f) (v0 v1 v2 v3 : Value) : IsFm (NoB m b c p q (set5 W B v0 v1 v2 v3)) (set5 W B v0 v1 v2 v3) a s f := h.turn fun k hk => by
  refine ⟨⟨by simpa using hk.1, hk.2⟩, heap5 hk.1 (fun e => ?_) _ _ _ _⟩
  subst e
  rcases hn with ⟨h1, h2⟩ | ⟨h1, h2⟩
  · exact hk.2.1 h1 h2
  · exact hk.2.2.1 h1 h2
theorem FvN.set {B : Nat} (h : FvN m b c p q W u f) (hn : (b = true ∧ p = ptr0 B) ∨ (c = true ∧ q = ptr0 B)) (v0 v1 v2 v3 : Value) : FvN m b c p q (set5 W B v0 v1 v2 v3) u f := by
  obtain ⟨o', nm, a0, a1, a2, s0, s1, s2, h1, h2, h3, h4⟩ := h
  exact ⟨o', nm, a0, a1, a2, s0, s1, s2, h1, h2, h3, nob_set hn h4 _ _ _ _⟩
theorem BxN.below (h : BxN m ob v W r) (hB : Below W.heap.size W W') : BxN m ob v W' r := by
  obtain ⟨B, c0, c1, c2, c3, h1, h2, h3, h4⟩ := h
  exact ⟨B, c0, c1, c2, c3, h1, blk_up9 hB h2, h3, h4⟩
theorem BxN.al (h : BxN m ob v W r) (o : Obj) : BxN m true (ptr0 W.heap.size) (W.alloc o) r := by
  obtain ⟨B, c0, c1, c2, c3, h1, h2, h3, h4⟩ := h
  exact ⟨B, c0, c1, c2, c3, h1, HK.blk_alloc h2 o, h3, fun _ e => ptr0_ne h2 (by rw [← h1, e])⟩
theorem BxN.set {B : Nat} (h : BxN m ob v W r) (hn : ob = true) (hv : v = ptr0 B) (v0 v1 v2 v3 : Value) : BxN m ob v (set5 W B v0 v1 v2 v3) r := by
  obtain ⟨B', c0, c1, c2, c3, h1, h2, h3, h4⟩ := h
  exact ⟨B', c0, c1, c2, c3, h1, blk4 h2 (fun e => h4 hn (by rw [hv, h1, e])) _ _ _ _, h3, h4⟩
theorem BxN.own {B : Nat} {c0 c1 c2 c3 : Value} (h : BxN m ob v W r) (hr : r = ptr0 B) (hb : W.heap[B]? = some (.cells #[c0, c1, c2, c3] 35 (0, 0))) (v0 v1 v2 v3 : Value) : BxN m ob v (set5 W B v0 v1 v2 v3) r := by
  obtain ⟨B', c0', c1', c2', c3', h1, h2, h3, h4⟩ := h
  obtain rfl : B = B' := by rw [hr] at h1; simpa [ptr0] using h1
  exact ⟨B, _, _, _, _, h1, set4 hb v0 v1 v2 v3, h3, h4⟩
theorem BxN.fresh {o : Obj} {c0 c1 c2 c3 : Value} (hm : m ≤ W.heap.size) (ho : ob = true → ∃ ob v', BxN m ob v' W v) (hobj : o = .cells #[c0, c1, c2, c3] 35 (0, 0) := by rfl) : BxN m ob v (W.alloc o) (ptr0 W.heap.size) := by
  subst hobj
  refine ⟨_, c0, c1, c2, c3, rfl, HK.blk_new _ _, hm, fun h e => ?_⟩
  obtain ⟨_, _, B, c0', c1', c2', c3', h1, h2, _⟩ := ho h
  exact ptr0_ne h2 (by rw [← h1, e])
theorem FmN.below (h : FmN b c p q m ob v W r f) (hB : Below W.heap.size W W') : FmN b c p q m ob v W' r f := by
  obtain ⟨B, o, nm, a0, a1, a2, s0, s1, s2, h1, h2, h3, h4, h5, h6, h7⟩ := h
  exact ⟨B, o, nm, a0, a1, a2, s0, s1, s2, h1, blk_up9 hB h2, h3, h4, h5, h6, h7.turn fun k hk => ⟨⟨Nat.lt_of_lt_of_le hk.1 hB.size, hk.2⟩, hB.block k hk.1⟩⟩
theorem FmN.al1 (h : FmN b c p q m ob v W r f) (o : Obj) : FmN true c (ptr0 W.heap.size) q m true (ptr0 W.heap.size) (W.alloc o) r f := by
  obtain ⟨B, o', nm, a0, a1, a2, s0, s1, s2, h1, h2, h3, h4, h5, h6, h7⟩ := h
  have hB := below_alloc W o
  exact ⟨B, o', nm, a0, a1, a2, s0, s1, s2, h1, HK.blk_alloc h2 o, h3, fun _ e => ptr0_ne h2 (by rw [← h1, e]), h5, h6, h7.turn fun k hk => ⟨⟨Nat.lt_of_lt_of_le hk.1 hB.size, (fun _ e => by have := hk.1; simp [ptr0] at e <;> omega), hk.2.2⟩, hB.block k hk.1⟩⟩
theorem FmN.al2 (h : FmN b c p q m ob v W r f) (o : Obj) : FmN b true p (ptr0 W.heap.size) m true (ptr0 W.heap.size) (W.alloc o) r f := by
  obtain ⟨B, o', nm, a0, a1, a2, s0, s1, s2, h1, h2, h3, h4, h5, h6, h7⟩ := h
  have hB := below_alloc W o
  exact ⟨B, o', nm, a0, a1, a2, s0, s1, s2, h1, HK.blk_alloc h2 o, h3, fun _ e => ptr0_ne h2 (by rw [← h1, e]), h5, h6, h7.turn fun k hk => ⟨⟨Nat.lt_of_lt_of_le hk.1 hB.size, hk.2.1, (fun _ e => by have := hk.1; simp [ptr0] at e <;> omega), hk.2.2.2⟩, hB.block k hk.1⟩⟩
theorem FmN.set {B : Nat} (h : FmN b c p q m ob v W r f) (ho : ob = true) (hv : v = ptr0 B) (hn : (b = true ∧ p = ptr0 B) ∨ (c = true ∧ q = ptr0 B)) (v0 v1 v2 v3 : Value) : FmN b c p q m ob v (set5 W B v0 v1 v2 v3) r f := by
  obtain ⟨B', o', nm, a0, a1, a2, s0, s1, s2, h1, h2, h3, h4, h5, h6, h7⟩ := h
  exact ⟨B', o', nm, a0, a1, a2, s0, s1, s2, h1, blk4 h2 (fun e => h4 ho (by rw [hv, h1, e])) _ _ _ _, h3, h4, h5, h6, nob_set hn h7 _ _ _ _⟩
/-- A formula in a box; the box and all its rows are not elder than m. -/
def FmS (m : Nat) (W : World) (B : Nat) (f : Fm) : Prop := m ≤ B ∧ ∃ (o : Nat) (nm : ByteArray) (a0 : Option Addr) (a1 a2 : Nat) (s0 : Option Addr) (s1 s2 : Nat), W.heap[B]? = some (.cells #[.int .u8 (o : Int), .string nm, .slice a0 a1 a2, .slice s0 s1 s2] 35 (0, 0)) ∧ f.op = o ∧ f.name = nm ∧ IsFm (fun k => m ≤ k ∧ k < W.heap.size) W ⟨a0, a1, a2⟩ ⟨s0, s1, s2⟩ f
theorem FmS.turn {B : Nat} (h : FmS m W B f) (hs : W.heap.size ≤ W'.heap.size) (hb : ∀ k, m ≤ k → k < W.heap.size → W'.heap[k]? = W.heap[k]?) : FmS m W' B f := by
  obtain ⟨h0, o, nm, a0, a1, a2, s0, s1, s2, h1, h2, h3, h4⟩ := h
  exact ⟨h0, o, nm, a0, a1, a2, s0, s1, s2, (hb B h0 (HK.blk_lt h1)).trans h1, h2, h3, h4.turn fun k hk => ⟨⟨hk.1, Nat.lt_of_lt_of_le hk.2 hs⟩, hb k hk.1 hk.2⟩⟩
theorem FmS.box {B : Nat} (h : FmS m W B f) : FmB W B f := by
  obtain ⟨h0, o, nm, a0, a1, a2, s0, s1, s2, h1, h2, h3, h4⟩ := h
  exact ⟨o, nm, a0, a1, a2, s0, s1, s2, h1, h2, h3, h4.turn fun k hk => ⟨hk.2, rfl⟩⟩
theorem FmN.boxS (h : FmN b c p q m ob v W r f) : ∃ B, r = ptr0 B ∧ FmS m W B f := by
  obtain ⟨B', o', nm, a0, a1, a2, s0, s1, s2, h1, h2, h3, h4, h5, h6, h7⟩ := h
  exact ⟨B', h1, h3, o', nm, a0, a1, a2, s0, s1, s2, h2, h5, h6, h7.turn fun k hk => ⟨⟨hk.2.2.2, hk.1⟩, rfl⟩⟩
theorem FmN.box (h : FmN b c p q m ob v W r f) : ∃ B, r = ptr0 B ∧ FmB W B f := by
  obtain ⟨B', o', nm, a0, a1, a2, s0, s1, s2, h1, h2, h3, h4, h5, h6, h7⟩ := h
  exact ⟨B', h1, o', nm, a0, a1, a2, s0, s1, s2, h2, h5, h6, h7.turn fun k hk => ⟨hk.1, rfl⟩⟩
theorem FvN.of_call {a s : SL} (hb : b = true → BxN m ob v W p) (hc : c = true → ∃ ob v, BxN m ob v W q) (hW : W.heap.size ≤ W'.heap.size) (hm : m ≤ W.heap.size) (hfm : IsFm (fun k => W.heap.size ≤ k ∧ k < W'.heap.size) W' a s f) : FvN m b c p q W' (fv f a s) f := by
  obtain ⟨a0, a1, a2⟩ := a
  obtain ⟨s0, s1, s2⟩ := s
  refine ⟨f.op, f.name, a0, a1, a2, s0, s1, s2, rfl, rfl, rfl, hfm.turn fun k hk => ⟨⟨hk.2, fun h e => ?_, fun h e => ?_, Nat.le_trans hm hk.1⟩, rfl⟩⟩
  · obtain ⟨B, c0, c1, c2, c3, h1, h2, _⟩ := hb h
    rw [h1] at e
    have := HK.blk_lt h2
    simp [ptr0] at e <;> omega
  · obtain ⟨_, _, B, c0, c1, c2, c3, h1, h2, _⟩ := hc h
    rw [h1] at e
    have := HK.blk_lt h2
    simp [ptr0] at e <;> omega
end
end Go.Proofs.YtflmllablfjfeaaDoor
