/- Frame: the facts of a model turned in place (FrameForces). -/
import Derived.Test.YtflmllablfjfeaaDoorFsx
namespace Go.Proofs.YtflmllablfjfeaaDoor
open Go.RowKit Go.HK Go.FR
set_option linter.unusedVariables false
set_option linter.unusedSimpArgs false
set_option linter.unusedSectionVars false
/-- A fact as the law turns it. -/
def low (m : Nat) : Nat := if m.testBit 0 = true then m else 0
theorem low_yes {m : Nat} (h : m.testBit 0 = true) : low m = m := by unfold low; rw [if_pos h]
theorem low_no {m : Nat} (h : m.testBit 0 = false) : low m = 0 := by unfold low; rw [if_neg (by rw [h]; exact Bool.false_ne_true)]
theorem low_allno {rel : List Nat} {m : Nat} (hm : m < 2 ^ rel.length) (hup : UpM rel m) (hroot : rel.getD 0 0 = 2 ^ rel.length - 1) : AllNo rel.length (low m) := by
  rcases e : m.testBit 0 with _ | _
  · rw [low_no e]; exact .inl rfl
  · rw [low_yes e]; exact .inr (all_of hm fun w hw => hup 0 w e (by rw [hroot, all_test]; simp [hw]))
theorem low_up {rel : List Nat} {m : Nat} (hup : UpM rel m) : UpM rel (low m) := by
  rcases e : m.testBit 0 with _ | _
  · rw [low_no e]; intro w u h; simp at h
  · rw [low_yes e]; exact hup
theorem low_lt {n m : Nat} (hm : m < 2 ^ n) : low m < 2 ^ n := by
  rcases e : m.testBit 0 with _ | _
  · rw [low_no e]; exact Nat.two_pow_pos n
  · rw [low_yes e]; exact hm
/-- Three facts in their block. -/
def FcB (fg : Nat) (U : Nat → Nat) (W : World) : Prop := ∃ arr : Array Value, W.heap[fg]? = some (.cells arr 46 (0, 0)) ∧ ∀ k, k < 3 → arr[k * 3]? = some (.string (pqr k)) ∧ arr[k * 3 + 1]? = some (.int .i64 0) ∧ arr[k * 3 + 2]? = some (.int .i64 (U k : Int))
theorem fcB_own {w : World} {b fg fc x y z : Nat} (h : w.ownsRow b 46 3 (.slice (some ⟨fg, 0, none⟩) 3 fc) 3 (fcs 0 [x, y, z])) : FcB fg (fun j => [x, y, z].getD j 0) w := by
  have h0 := h
  rcases h.2 with ⟨h1, _⟩ | ⟨g, cap, cur, h1, _, h2, _⟩
  · cases h1
  · cases h1
    have e := fun i (hi : i < 9) => (HK.blk_cell h2 i).symm.trans (h0.cellAt i (by omega))
    refine ⟨cur, h2, fun k hk => ?_⟩
    rcases (by omega : k = 0 ∨ k = 1 ∨ k = 2) with rfl | rfl | rfl <;> exact ⟨(e _ (by omega)).trans rfl, (e _ (by omega)).trans rfl, (e _ (by omega)).trans rfl⟩
theorem FcB.set {fg : Nat} {U : Nat → Nat} {W : World} {k : Nat} (h : FcB fg U W) (hk : k < 3) (v : Nat) : FcB fg (fun j => if j = k then v else U j) (W.setCell ⟨fg, k * 3 + 2, none⟩ (.int .i64 (v : Int))) := by
  obtain ⟨arr, h1, h2⟩ := h
  refine ⟨_, HK.blk_set h1 _ _, fun j hj => ?_⟩
  obtain ⟨a, b, c⟩ := h2 j hj
  have hb : k * 3 + 2 < arr.size := by obtain ⟨_, _, c⟩ := h2 k hk; exact (Array.getElem?_eq_some_iff.1 c).1
  rw [Array.getElem?_setIfInBounds, Array.getElem?_setIfInBounds, Array.getElem?_setIfInBounds]
  refine ⟨by rw [if_neg (by omega)]; exact a, by rw [if_neg (by omega)]; exact b, ?_⟩
  by_cases e : j = k
  · subst e; simp [hb]
  · rw [if_neg (by omega)]; simp only [if_neg e]; exact c
theorem FcB.alloc {fg : Nat} {U : Nat → Nat} {W : World} (h : FcB fg U W) (o : Obj) : FcB fg U (W.alloc o) := by
  obtain ⟨arr, h1, h2⟩ := h
  exact ⟨arr, HK.blk_alloc h1 o, h2⟩
theorem FcB.below {fg : Nat} {U : Nat → Nat} {W W' : World} (h : FcB fg U W) (hB : Below W.heap.size W W') : FcB fg U W' := by
  obtain ⟨arr, h1, h2⟩ := h
  exact ⟨arr, blk_up9 hB h1, h2⟩
theorem FcB.ext {fg : Nat} {U V : Nat → Nat} {W : World} (h : FcB fg U W) (e : ∀ k, k < 3 → U k = V k) : FcB fg V W := by
  obtain ⟨arr, h1, h2⟩ := h
  exact ⟨arr, h1, fun k hk => by rw [← e k hk]; exact h2 k hk⟩
theorem pqr_size (i : Nat) (hi : i < 3) : (pqr i).size ≤ maxLen := by
  rcases (by omega : i = 0 ∨ i = 1 ∨ i = 2) with rfl | rfl | rfl <;> (show (1 : Nat) ≤ maxLen; unfold maxLen; omega)
/-- The model in its box, from its rows. -/
theorem mb_of {W : World} {B b g c fg fc n : Nat} {rl : List Nat} {U : Nat → Nat} {x y z : Nat}
    (hb : W.heap[B]? = some (.cells #[.int .u8 3, .int .i64 (n : Int), .slice (some ⟨g, 0, none⟩) n c, .int .i64 0, .slice (some ⟨fg, 0, none⟩) 3 fc, .slice none 0 0, .slice none 0 0] 30 (0, 0)))
    (hR : W.ownsRow b 3 1 (.slice (some ⟨g, 0, none⟩) n c) n (ints rl)) (hn : rl.length = n) (hf : FcB fg U W) (e0 : U 0 = x) (e1 : U 1 = y) (e2 : U 2 = z) : MB W B (mdl 3 n rl [x, y, z]) := by
  have hg : g < W.heap.size := own_lt9 hR g rfl
  obtain ⟨arr, h1, h2⟩ := hf
  have hfg := HK.blk_lt h1
  refine ⟨3, n, 0, some ⟨g, 0, none⟩, n, c, some ⟨fg, 0, none⟩, 3, fc, none, 0, 0, none, 0, 0, hb, rfl, rfl, rfl, ⟨⟨?_, fun i x hx => ?_⟩, ⟨rfl, fun i f hf => ?_⟩, rfl, rfl, by show (3 : Nat) < 256; omega, by show (3 : Nat) ≤ 1000000000; omega⟩⟩
  · show n = _; unfold mdl; rw [List.length_map]; exact hn.symm
  · exact ⟨g, 0, rfl, hg, (isR_own hR).z i x hx⟩
  · have hi : i < 3 := (List.getElem?_eq_some_iff.1 hf).1
    obtain ⟨a, d, e⟩ := h2 i hi
    refine ⟨fg, 0, rfl, hfg, ?_⟩
    rw [Nat.zero_add, HK.blk_cell h1, HK.blk_cell h1, HK.blk_cell h1]
    unfold mdl at hf
    rcases (by omega : i = 0 ∨ i = 1 ∨ i = 2) with rfl | rfl | rfl
    · simp only [factL, List.getElem?_cons_zero, Option.some.injEq] at hf; subst hf; rw [← e0]; exact ⟨a, d, e, pqr_size _ (by omega)⟩
    · simp only [factL, List.getElem?_cons_zero, List.getElem?_cons_succ, Option.some.injEq] at hf; subst hf; rw [← e1]; exact ⟨a, d, e, pqr_size _ (by omega)⟩
    · simp only [factL, List.getElem?_cons_zero, List.getElem?_cons_succ, Option.some.injEq] at hf; subst hf; rw [← e2]; exact ⟨a, d, e, pqr_size _ (by omega)⟩
/-- What has been since. -/
def Since (a W : World) : Prop := Below a.heap.size a W
theorem Since.below {a W W' : World} (h : Since a W) (hB : Below W.heap.size W W') : Since a W' := below_tr h hB
theorem FmS.below {m : Nat} {W W' : World} {B : Nat} {f : Fm} (h : FmS m W B f) (hB : Below W.heap.size W W') : FmS m W' B f := h.turn hB.size fun k _ hk => hB.block k hk
theorem types_ne {w : World} {b g c fg fc n k : Nat} {xs ys : List Value} (h : w.ownsRow b 3 1 (.slice (some ⟨g, 0, none⟩) n c) n xs) (h2 : w.ownsRow b 46 3 (.slice (some ⟨fg, 0, none⟩) k fc) k ys) : g ≠ fg := by
  rcases h.2 with ⟨h1, _⟩ | ⟨g', cap, cur, h1, _, h3, _⟩
  · cases h1
  · rcases h2.2 with ⟨h4, _⟩ | ⟨g2, cap2, cur2, h4, _, h5, _⟩
    · cases h4
    · cases h1; cases h4
      intro e; subst e
      rw [h3] at h5; cases h5
end Go.Proofs.YtflmllablfjfeaaDoor
