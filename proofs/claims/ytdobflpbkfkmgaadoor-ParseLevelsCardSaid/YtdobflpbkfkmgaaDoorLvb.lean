/- ParseLevels: rank (19); formulas in blocks that keep off a box. -/
import Derived.Test.YtdobflpbkfkmgaaDoorOut
namespace Go.Proofs.YtdobflpbkfkmgaaDoor
open Go.RowKit Go.HK Go.FR
set_option linter.unusedVariables false
set_option linter.unusedSimpArgs false
set_option linter.unusedSectionVars false
set_option maxRecDepth 100000 in
set_option maxHeartbeats 2000000 in
theorem rank_call (W : World) (k : Nat) (hk : k < 5) : Calls Tryd.prog 19 #[.int .u8 (lvO k : Int)] W fun e w' => e = .returned (.tuple #[.int .i64 ((k + 1 : Nat) : Int), .bool (lvR k)]) ∧ Below W.heap.size W w' := by
  rcases (by omega : k = 0 ∨ k = 1 ∨ k = 2 ∨ k = 3 ∨ k = 4) with rfl | rfl | rfl | rfl | rfl
  all_goals (
    simp only [show ((lvO 0 : Nat) : Int) = 7 from rfl, show ((lvO 1 : Nat) : Int) = 6 from rfl, show ((lvO 2 : Nat) : Int) = 14 from rfl, show ((lvO 3 : Nat) : Int) = 5 from rfl, show ((lvO 4 : Nat) : Int) = 4 from rfl]
    clear hk
    go_enter Tryd.func19, Tryd.ntmps19
    go_wp2_with (fail)
    go_ret2
    exact ⟨rfl, Below.refl _ _⟩)
/-! ### formulas in some blocks -/
def FmS (S : Nat → Prop) (W : World) (f : Fm) (v : Value) : Prop := ∃ a s : SL, v = .agg #[.int .u8 (f.op : Int), .string f.name, a.v, s.v] ∧ IsTs S W a f.args ∧ IsFs S W s f.subs ∧ f.op < 256 ∧ f.name.size ≤ maxLen
def FsS (S : Nat → Prop) (W : World) (l : List Fm) (v : Value) : Prop := ∃ s : SL, v = s.v ∧ IsFs S W s l
theorem FmS.turn {S T : Nat → Prop} {W W' : World} {f : Fm} {v : Value} (h : FmS S W f v) (hb : ∀ k, S k → T k ∧ W'.heap[k]? = W.heap[k]?) : FmS T W' f v := by
  obtain ⟨a, s, e, h1, h2, h3⟩ := h
  exact ⟨a, s, e, h1.turn hb, h2.turn hb, h3⟩
theorem FsS.turn {S T : Nat → Prop} {W W' : World} {l : List Fm} {v : Value} (h : FsS S W l v) (hb : ∀ k, S k → T k ∧ W'.heap[k]? = W.heap[k]?) : FsS T W' l v := by
  obtain ⟨s, e, h1⟩ := h
  exact ⟨s, e, h1.turn hb⟩
theorem FmS.fx {S : Nat → Prop} {W : World} {f : Fm} {v : Value} (h : FmS S W f v) : ∃ (o : Int) (n : ByteArray) (a : Option Addr) (an ac : Nat) (b : Option Addr) (bn bc : Nat), v = .agg #[.int .u8 o, .string n, .slice a an ac, .slice b bn bc] ∧ FmS S W f (.agg #[.int .u8 o, .string n, .slice a an ac, .slice b bn bc]) := by
  obtain ⟨⟨a, an, ac⟩, ⟨b, bn, bc⟩, rfl, h1⟩ := h
  exact ⟨_, _, _, _, _, _, _, _, rfl, ⟨a, an, ac⟩, ⟨b, bn, bc⟩, rfl, h1⟩
theorem FmS.fmv {S : Nat → Prop} {W : World} {f : Fm} {v : Value} (h : FmS S W f v) (hS : ∀ k, S k → k < W.heap.size) : FmV W 0 f v := h.turn fun k hk => ⟨⟨Nat.zero_le _, hS k hk⟩, rfl⟩
theorem FsS.fsv {S : Nat → Prop} {W : World} {l : List Fm} {v : Value} (h : FsS S W l v) (hS : ∀ k, S k → k < W.heap.size) : FsV W 0 l v := h.turn fun k hk => ⟨⟨Nat.zero_le _, hS k hk⟩, rfl⟩
theorem fs_two_S {S : Nat → Prop} {W : World} {g : Nat} {f f2 : Fm} {c0 c1 c2 c3 d0 d1 d2 d3 : Value} (hf : FmS S W f (.agg #[c0, c1, c2, c3])) (hg : FmS S W f2 (.agg #[d0, d1, d2, d3])) (hk : W.heap[g]? = some (.cells #[c0, c1, c2, c3, d0, d1, d2, d3] 25 (0, 0))) (hS : S g) : FsS S W [f, f2] (.slice (some ⟨g, 0, none⟩) 2 2) := by
  obtain ⟨a1, s1, e1, h1, h2, h3, h4⟩ := hf
  obtain ⟨a2, s2, e2, k1, k2, k3, k4⟩ := hg
  cases e1; cases e2
  refine ⟨⟨some ⟨g, 0, none⟩, 2, 2⟩, rfl, fs_row [(f, a1, s1), (f2, a2, s2)] (fun i v hv => ?_) hS ?_ rfl⟩
  · rw [HK.blk_cell hk]
    rcases (by omega : i = 0 ∨ i = 1 ∨ i = 2 ∨ i = 3 ∨ i = 4 ∨ i = 5 ∨ i = 6 ∨ i = 7 ∨ 8 ≤ i) with rfl | rfl | rfl | rfl | rfl | rfl | rfl | rfl | h6
    iterate 8 exact hv
    rw [List.getElem?_eq_none (by simpa [celF, fmV] using h6)] at hv; cases hv
  · intro p hp
    simp only [List.mem_cons, List.mem_nil_iff, or_false] at hp
    rcases hp with rfl | rfl
    · exact ⟨h1, h2, h3, h4⟩
    · exact ⟨k1, k2, k3, k4⟩
theorem FmS.of {S : Nat → Prop} {W : World} {op : Nat} {l : List Fm} {a : Option Addr} {n c : Nat} (h : FsS S W l (.slice a n c)) (ho : op < 256) : FmS S W (.mk op ⟨#[]⟩ [] l) (.agg #[.int .u8 (op : Int), .string ⟨#[]⟩, .slice none 0 0, .slice a n c]) := by
  obtain ⟨⟨sa, sn, sc⟩, e, h1⟩ := h
  cases e
  exact ⟨⟨none, 0, 0⟩, ⟨sa, sn, sc⟩, rfl, .nil _ _, h1, ho, by show (0 : Nat) ≤ _; decide⟩
/-- The blocks of a world but a box that a slot may point to. -/
def SX (W : World) (b : Bool) (p : Value) (k : Nat) : Prop := k < W.heap.size ∧ (b = true → p ≠ .pointer (some ⟨k, 0, none⟩))
theorem SX.lt {W : World} {b : Bool} {p : Value} : ∀ k, SX W b p k → k < W.heap.size := fun k h => h.1
theorem FmS.upx {W W' : World} {b : Bool} {p : Value} {f : Fm} {v : Value} (h : FmS (SX W b p) W f v) (hB : Below W.heap.size W W') : FmS (SX W' b p) W' f v := h.turn fun k hk => ⟨⟨Nat.lt_of_lt_of_le hk.1 hB.size, hk.2⟩, hB.block k hk.1⟩
theorem FsS.upx {W W' : World} {b : Bool} {p : Value} {l : List Fm} {v : Value} (h : FsS (SX W b p) W l v) (hB : Below W.heap.size W W') : FsS (SX W' b p) W' l v := h.turn fun k hk => ⟨⟨Nat.lt_of_lt_of_le hk.1 hB.size, hk.2⟩, hB.block k hk.1⟩
theorem FmS.boxx {W : World} {b b' : Bool} {p : Value} {f : Fm} {v : Value} (h : FmS (SX W b p) W f v) (o : Obj) : FmS (SX (W.alloc o) b' (.pointer (some ⟨W.heap.size, 0, none⟩))) (W.alloc o) f v := h.turn fun k hk => ⟨⟨by simp only [World.size_alloc]; have := hk.1; omega, fun _ e => by cases e; exact absurd hk.1 (Nat.lt_irrefl _)⟩, Below.heap_alloc _ _ _ hk.1⟩
theorem FsS.boxx {W : World} {b b' : Bool} {p : Value} {f : List Fm} {v : Value} (h : FsS (SX W b p) W f v) (o : Obj) : FsS (SX (W.alloc o) b' (.pointer (some ⟨W.heap.size, 0, none⟩))) (W.alloc o) f v := h.turn fun k hk => ⟨⟨by simp only [World.size_alloc]; have := hk.1; omega, fun _ e => by cases e; exact absurd hk.1 (Nat.lt_irrefl _)⟩, Below.heap_alloc _ _ _ hk.1⟩
theorem set4 {w : World} {b : Nat} {c0 c1 c2 c3 : Value} {t : TypeId} (h : w.heap[b]? = some (.cells #[c0, c1, c2, c3] t (0, 0))) (v0 v1 v2 v3 : Value) : ((((w.setCell ⟨b, 0, none⟩ v0).setCell ⟨b, 1, none⟩ v1).setCell ⟨b, 2, none⟩ v2).setCell ⟨b, 3, none⟩ v3).heap[b]? = some (.cells #[v0, v1, v2, v3] t (0, 0)) := by
  have h1 := HK.blk_set h 0 v0
  have h2 := HK.blk_set h1 1 v1
  have h3 := HK.blk_set h2 2 v2
  have h4 := HK.blk_set h3 3 v3
  simpa using h4
theorem heap4 {w : World} {b B : Nat} (hn : B ≠ b) (v0 v1 v2 v3 : Value) : ((((w.setCell ⟨b, 0, none⟩ v0).setCell ⟨b, 1, none⟩ v1).setCell ⟨b, 2, none⟩ v2).setCell ⟨b, 3, none⟩ v3).heap[B]? = w.heap[B]? := by
  rw [Below.heap_setCell _ _ _ _ (by simpa using hn), Below.heap_setCell _ _ _ _ (by simpa using hn), Below.heap_setCell _ _ _ _ (by simpa using hn), Below.heap_setCell _ _ _ _ (by simpa using hn)]
theorem below4 {a w : World} {B b : Nat} (h : Below B a w) (hb : B ≤ b) (v0 v1 v2 v3 : Value) : Below B a ((((w.setCell ⟨b, 0, none⟩ v0).setCell ⟨b, 1, none⟩ v1).setCell ⟨b, 2, none⟩ v2).setCell ⟨b, 3, none⟩ v3) := (((h.setCell (p := ⟨b, 0, none⟩) hb _).setCell (p := ⟨b, 1, none⟩) hb _).setCell (p := ⟨b, 2, none⟩) hb _).setCell (p := ⟨b, 3, none⟩) hb _
theorem size4 {w : World} {b : Nat} (v0 v1 v2 v3 : Value) : ((((w.setCell ⟨b, 0, none⟩ v0).setCell ⟨b, 1, none⟩ v1).setCell ⟨b, 2, none⟩ v2).setCell ⟨b, 3, none⟩ v3).heap.size = w.heap.size := by simp
/-- What keeps off a box stays when the box is filled. -/
theorem FmS.fill {S T : Nat → Prop} {W : World} {b : Nat} {f : Fm} {v : Value} (h : FmS S W f v) (hS : ∀ k, S k → T k ∧ k ≠ b) (v0 v1 v2 v3 : Value) : FmS T ((((W.setCell ⟨b, 0, none⟩ v0).setCell ⟨b, 1, none⟩ v1).setCell ⟨b, 2, none⟩ v2).setCell ⟨b, 3, none⟩ v3) f v := h.turn fun k hk => ⟨(hS k hk).1, heap4 (hS k hk).2 _ _ _ _⟩
theorem FsS.fill {S T : Nat → Prop} {W : World} {b : Nat} {f : List Fm} {v : Value} (h : FsS S W f v) (hS : ∀ k, S k → T k ∧ k ≠ b) (v0 v1 v2 v3 : Value) : FsS T ((((W.setCell ⟨b, 0, none⟩ v0).setCell ⟨b, 1, none⟩ v1).setCell ⟨b, 2, none⟩ v2).setCell ⟨b, 3, none⟩ v3) f v := h.turn fun k hk => ⟨(hS k hk).1, heap4 (hS k hk).2 _ _ _ _⟩
theorem FmS.fillx {W : World} {b : Bool} {p : Value} {B : Nat} {f : Fm} {v : Value} (h : FmS (SX W b p) W f v) (hb : b = true) (hp : p = .pointer (some ⟨B, 0, none⟩)) (v0 v1 v2 v3 : Value) : FmS (SX ((((W.setCell ⟨B, 0, none⟩ v0).setCell ⟨B, 1, none⟩ v1).setCell ⟨B, 2, none⟩ v2).setCell ⟨B, 3, none⟩ v3) b p) ((((W.setCell ⟨B, 0, none⟩ v0).setCell ⟨B, 1, none⟩ v1).setCell ⟨B, 2, none⟩ v2).setCell ⟨B, 3, none⟩ v3) f v :=
  h.fill (fun k hk => ⟨⟨by rw [size4]; exact hk.1, hk.2⟩, fun e => hk.2 hb (by rw [hp, e])⟩) _ _ _ _
theorem FsS.fillx {W : World} {b : Bool} {p : Value} {B : Nat} {f : List Fm} {v : Value} (h : FsS (SX W b p) W f v) (hb : b = true) (hp : p = .pointer (some ⟨B, 0, none⟩)) (v0 v1 v2 v3 : Value) : FsS (SX ((((W.setCell ⟨B, 0, none⟩ v0).setCell ⟨B, 1, none⟩ v1).setCell ⟨B, 2, none⟩ v2).setCell ⟨B, 3, none⟩ v3) b p) ((((W.setCell ⟨B, 0, none⟩ v0).setCell ⟨B, 1, none⟩ v1).setCell ⟨B, 2, none⟩ v2).setCell ⟨B, 3, none⟩ v3) f v :=
  h.fill (fun k hk => ⟨⟨by rw [size4]; exact hk.1, hk.2⟩, fun e => hk.2 hb (by rw [hp, e])⟩) _ _ _ _
theorem FmS.fillv {W : World} {b : Bool} {p : Value} {B : Nat} {f : Fm} {v : Value} (h : FmS (SX W b p) W f v) (hb : b = true) (hp : p = .pointer (some ⟨B, 0, none⟩)) (v0 v1 v2 v3 : Value) : FmV ((((W.setCell ⟨B, 0, none⟩ v0).setCell ⟨B, 1, none⟩ v1).setCell ⟨B, 2, none⟩ v2).setCell ⟨B, 3, none⟩ v3) 0 f v :=
  (h.fillx hb hp v0 v1 v2 v3).fmv SX.lt
theorem FsS.fx {S : Nat → Prop} {W : World} {l : List Fm} {v : Value} (h : FsS S W l v) : ∃ (a : Option Addr) (n c : Nat), v = .slice a n c ∧ FsS S W l (.slice a n c) := by
  obtain ⟨⟨a, n, c⟩, rfl, h1⟩ := h
  exact ⟨_, _, _, rfl, ⟨a, n, c⟩, rfl, h1⟩
/-- A slot points to a box, behind a place. -/
def BxO (m : Nat) (W : World) (p : Value) : Prop := ∃ (B : Nat) (c0 c1 c2 c3 : Value), p = .pointer (some ⟨B, 0, none⟩) ∧ W.heap[B]? = some (.cells #[c0, c1, c2, c3] 25 (0, 0)) ∧ m ≤ B
theorem BxO.up {m : Nat} {W W' : World} {p : Value} (h : BxO m W p) (hB : Below W.heap.size W W') : BxO m W' p := by
  obtain ⟨B, c0, c1, c2, c3, hp, hb, hm⟩ := h
  exact ⟨B, c0, c1, c2, c3, hp, (hB.block _ (HK.blk_lt hb)).trans hb, hm⟩
theorem BxO.fresh {m : Nat} {W : World} {c0 c1 c2 c3 : Value} (hm : m ≤ W.heap.size) : BxO m (W.alloc (.cells #[c0, c1, c2, c3] 25)) (.pointer (some ⟨W.heap.size, 0, none⟩)) := ⟨_, c0, c1, c2, c3, rfl, HK.blk_new _ _, hm⟩
theorem SX.new {m : Nat} {W : World} {b : Bool} {p : Value} (h : b = true → BxO m W p) (o : Obj) : SX (W.alloc o) b p W.heap.size := by
  refine ⟨by simp, fun hb e => ?_⟩
  obtain ⟨B, c0, c1, c2, c3, hp, hk, _⟩ := h hb
  rw [hp] at e
  cases e
  exact absurd (HK.blk_lt hk) (Nat.lt_irrefl _)
theorem FmS.keep {w W : World} {b : Bool} {p : Value} {f : Fm} {v : Value} (h : FmS (fun k => k < w.heap.size) w f v) (hB : Below w.heap.size w W) (hb : b = true → BxO w.heap.size W p) : FmS (SX W b p) W f v :=
  h.turn fun k hk => ⟨⟨Nat.lt_of_lt_of_le hk hB.size, fun e e2 => by
    obtain ⟨B, c0, c1, c2, c3, hp, _, hm⟩ := hb e
    rw [hp] at e2
    cases e2
    omega⟩, hB.block k hk⟩
/-- A box that holds a formula. -/
def BoxF (m : Nat) (W : World) (B : Nat) (f : Fm) : Prop := ∃ (o : Int) (n : ByteArray) (a : Option Addr) (an ac : Nat) (b : Option Addr) (bn bc : Nat), W.heap[B]? = some (.cells #[.int .u8 o, .string n, .slice a an ac, .slice b bn bc] 25 (0, 0)) ∧ m ≤ B ∧ FmV W 0 f (.agg #[.int .u8 o, .string n, .slice a an ac, .slice b bn bc])
theorem BoxF.up {m : Nat} {W W' : World} {B : Nat} {f : Fm} (h : BoxF m W B f) (hB : Below W.heap.size W W') : BoxF m W' B f := by
  obtain ⟨o, n, a, an, ac, b, bn, bc, hk, hm, hv⟩ := h
  exact ⟨o, n, a, an, ac, b, bn, bc, (hB.block _ (HK.blk_lt hk)).trans hk, hm, hv.up hB⟩
theorem BoxF.box {m : Nat} {W : World} {B : Nat} {f : Fm} (h : BoxF m W B f) : BxO m W (.pointer (some ⟨B, 0, none⟩)) := by
  obtain ⟨o, n, a, an, ac, b, bn, bc, hk, hm, hv⟩ := h
  exact ⟨B, _, _, _, _, rfl, hk, hm⟩
theorem below_tr9 {m : Nat} {a W W' : World} (h : Below m a W) (hm : m ≤ a.heap.size) (h2 : Below W.heap.size W W') : Below m a W' := h.trans (h2.mono (Nat.le_trans hm h.size))
theorem lt5 {i : Nat} (h : i < 5) : lvO i < 256 := by
  rcases (by omega : i = 0 ∨ i = 1 ∨ i = 2 ∨ i = 3 ∨ i = 4) with rfl | rfl | rfl | rfl | rfl <;> decide
theorem FmS.keep2 {m : Nat} {w W : World} {p : Value} {f : Fm} {v : Value} (h : FmS (fun k => k < m) w f v) (hB : Below m w W) (hb : BxO m W p) : FmS (SX W true p) W f v :=
  h.turn fun k hk => ⟨⟨by
    obtain ⟨B, c0, c1, c2, c3, hp, hq, hm⟩ := hb
    have := HK.blk_lt hq
    omega, fun _ e2 => by
    obtain ⟨B, c0, c1, c2, c3, hp, _, hm⟩ := hb
    rw [hp] at e2
    cases e2
    omega⟩, hB.block k hk⟩
end Go.Proofs.YtdobflpbkfkmgaaDoor
