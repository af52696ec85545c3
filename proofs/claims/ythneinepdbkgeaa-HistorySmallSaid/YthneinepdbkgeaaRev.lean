/- The walks of slices.Reverse and slices.Clone at []int. -/
import Derived.Test.YthneinepdbkgeaaRows
import Derived.Test.YthneinepdbkgeaaMid
import Derived.BigRegion
import Derived.Lib.BufferMore
namespace Go.Proofs.Ythneinepdbkgeaa
open Go.RowKit Go.HK
set_option linter.unusedVariables false
set_option linter.unusedSimpArgs false
set_option linter.unusedSectionVars false

theorem infoI' : (Try.prog.info? 3).map (fun i => (i.zero, i.size, i.bytes)) = some (some (.int .i64 0), 1, 8) := by kernel_rfl
/-- The first a and the last a are turned round. -/
def RevTo (xs ys : List Nat) (a : Nat) : Prop := ys.length = xs.length ∧ ∀ k, k < xs.length → ys[k]? = if k < a ∨ xs.length - a ≤ k then xs[xs.length - 1 - k]? else xs[k]?
theorem RevTo.zero (xs : List Nat) : RevTo xs xs 0 := ⟨rfl, fun k hk => by rw [if_neg (by omega)]⟩
theorem RevTo.done {xs ys : List Nat} {a b : Nat} (h : RevTo xs ys a) (hab : a + b + 1 = xs.length) (hle : b ≤ a) : ys = xs.reverse := by
  apply List.ext_getElem?
  intro k
  rcases Nat.lt_or_ge k xs.length with hk | hk
  · rw [h.2 k hk, List.getElem?_reverse hk]
    split
    · rfl
    · congr 1; omega
  · rw [List.getElem?_eq_none (by have := h.1; omega), List.getElem?_eq_none (by simpa using hk)]
theorem RevTo.step {xs ys : List Nat} {a b x y : Nat} (h : RevTo xs ys a) (hab : a + b + 1 = xs.length) (hlt : a < b) (hx : ys[a]? = some x) (hy : ys[b]? = some y) : RevTo xs ((ys.set a y).set b x) (a + 1) := by
  refine ⟨by simp [h.1], fun k hk => ?_⟩
  have h1 := h.1
  have ha := h.2 a (by omega)
  have hb := h.2 b (by omega)
  rw [if_neg (by omega)] at ha hb
  rw [List.getElem?_set]
  by_cases e1 : b = k
  · subst e1
    rw [if_pos rfl, if_pos (by simp; omega), if_pos (by omega), ← hx, ha]
    congr 1; omega
  · rw [if_neg e1, List.getElem?_set]
    by_cases e2 : a = k
    · subst e2
      rw [if_pos rfl, if_pos (by omega), if_pos (by omega), ← hy, hb]
      congr 1; omega
    · rw [if_neg e2, h.2 k hk]
      by_cases e3 : k < a ∨ xs.length - a ≤ k
      · rw [if_pos e3, if_pos (by omega)]
      · rw [if_neg e3, if_neg (by omega)]

set_option maxRecDepth 100000 in
set_option maxHeartbeats 2000000 in
theorem reverse_any (w : World) (base g cap : Nat) (xs : List Nat) (hn : xs.length ≤ 2000) (hown : w.ownsRow base 3 1 (.slice (some ⟨g, 0, none⟩) xs.length cap) xs.length (ints xs)) :
    Calls Try.prog 43 #[.slice (some ⟨g, 0, none⟩) xs.length cap] w fun e w' => e = .returned (.tuple #[]) ∧ w'.ownsRow base 3 1 (.slice (some ⟨g, 0, none⟩) xs.length cap) xs.length (ints xs.reverse) ∧ Frm (· = g) w w' := by
  obtain ⟨n, hnn⟩ : ∃ n, n = xs.length := ⟨_, rfl⟩
  rw [← hnn] at hown ⊢
  by_cases hz : n = 0
  · subst hz
    have : xs = [] := List.length_eq_zero_iff.1 hnn.symm
    subst this
    clear hnn
    go_enter Try.func43, Try.ntmps43
    go_wp2
    go_loop [2, 3] (fun i j => i = .int .i64 0 ∧ j = .int .i64 (-1)) (fun _ _ => 0)
    case atStart => exact ⟨rfl, rfl⟩
    case round =>
      obtain ⟨rfl, rfl⟩ := hrel
      go_wp2
      go_end0
      exact ⟨rfl, hown, Frm.refl _ _⟩
  · have hn0 : 0 < n := by omega
    have Hn : Hid (n = xs.length) := hnn
    have hn' : n ≤ 2000 := by omega
    clear hnn hz
    go_enter Try.func43, Try.ntmps43
    go_wp2
    go_loopw [2, 3] (fun i j wr => ∃ (a b : Nat) (ys : List Nat), i = .int .i64 a ∧ j = .int .i64 b ∧ a + b + 1 = n ∧ RevTo xs ys a ∧ wr.ownsRow base 3 1 (.slice (some ⟨g, 0, none⟩) n cap) n (ints ys) ∧ Frm (· = g) w wr)
      (fun i _ _ => n - (intOf i).toNat)
    case atStart => exact ⟨0, n - 1, xs, rfl, by go_num, by omega, RevTo.zero _, hown, Frm.refl _ _⟩
    case round =>
      obtain ⟨a, b, ys, rfl, rfl, hab, hrev, hrow, hfr⟩ := hrel
      by_cases hlt : a < b
      · obtain ⟨x, hx⟩ : ∃ x, ys[a]? = some x := ⟨_, List.getElem?_eq_getElem (by have := hrev.1; have := Hn.out; omega)⟩
        obtain ⟨y, hy⟩ : ∃ y, ys[b]? = some y := ⟨_, List.getElem?_eq_getElem (by have := hrev.1; have := Hn.out; omega)⟩
        have ca : wr.cell? ⟨g, a, none⟩ = some (.int .i64 x) := by rw [hrow.cellAt a (by omega)]; simp [ints, hx]
        have cb : wr.cell? ⟨g, b, none⟩ = some (.int .i64 y) := by rw [hrow.cellAt b (by omega)]; simp [ints, hy]
        have fa : wr.frozen? ⟨g, a, none⟩ = false := hrow.frozenAt a
        have fb : wr.frozen? ⟨g, b, none⟩ = false := hrow.frozenAt b
        have cab : ∀ v, (wr.drew.setCell ⟨g, a, none⟩ v).cell? ⟨g, b, none⟩ = some (.int .i64 y) := fun v => by
          rw [World.cell?_setCell_other]
          · exact cb
          · intro h; cases h; omega
        have cab' : ∀ v, (wr.setCell ⟨g, a, none⟩ v).cell? ⟨g, b, none⟩ = some (.int .i64 y) := fun v => by
          rw [World.cell?_setCell_other]
          · exact cb
          · intro h; cases h; omega
        have b0 : (0 : Int) ≤ (a : Int) := by omega
        have b1 : (a : Int) < (n : Int) := by omega
        have b2 : (0 : Int) ≤ (b : Int) := by omega
        have b3 : (b : Int) < (n : Int) := by omega
        go_wp2
        go_region
        go_wp2
        go_roundw
        case rel =>
          refine ⟨a + 1, b - 1, (ys.set a y).set b x, by go_num, by go_num, by omega, hrev.step (by rw [← Hn.out]; omega) hlt hx hy, ?_, ?_⟩
          · have h1 := (hrow.stored a (.int .i64 (y : Int))).1
            have h2 := (h1.stored b (.int .i64 (x : Int))).1
            have e1 : ints ((ys.set a y).set b x) = ((ints ys).set a (.int .i64 (y : Int))).set b (.int .i64 (x : Int)) := by simp [ints, List.map_set]
            rw [e1]
            exact h2
          · exact ((hfr.setCell (p := ⟨g, a, none⟩) (.inl rfl) _).setCell (p := ⟨g, b, none⟩) (.inl rfl) _).drew
        case measure => simp [intOf]; omega
      · go_wp2
        go_end0
        exact ⟨rfl, by rw [← hrev.done (b := b) (by rw [← Hn.out]; omega) (by omega)]; exact hrow, hfr⟩

/-- The nil slice. -/
theorem reverse_nil (w : World) : Calls Try.prog 43 #[.slice none 0 0] w fun e w' => e = .returned (.tuple #[]) ∧ w = w' := by
  go_enter Try.func43, Try.ntmps43
  go_wp2
  go_loop [2, 3] (fun i j => i = .int .i64 0 ∧ j = .int .i64 (-1)) (fun _ _ => 0)
  case atStart => exact ⟨rfl, rfl⟩
  case round =>
    obtain ⟨rfl, rfl⟩ := hrel
    go_wp2
    go_end0
    exact ⟨rfl, rfl⟩

set_option maxRecDepth 100000 in
set_option maxHeartbeats 2000000 in
/-- slices.Clone of a slice whose cells are known: a slice of the call's own. -/
theorem clone_any (w : World) (a : Addr) (cap : Nat) (xs : List Nat) (hn : xs.length ≤ 2000) (hc : ∀ j u, (ints xs)[j]? = some u → w.cell? (a.add j) = some u) :
    Calls Try.prog 42 #[.slice (some a) xs.length cap] w fun e w' => ∃ v, e = .returned v ∧ w'.ownsRow w.heap.size 3 1 v xs.length (ints xs) ∧ v ≠ .slice none 0 0 ∧ Below w.heap.size w w' := by
  obtain ⟨i0, hi, hz0, hz1, hz2⟩ := info_parts infoI'
  have he : (binOp .eql 25 (.slice (some a) xs.length cap) (.slice none 0 0)).run Try.prog w = .ok (.bool false) w := Lib.run_eql_slice_nil w 25 3 (some a) xs.length cap 0 0 Try.underlying25
  have h0 : (w.alloc (.cells #[] 3)).ownsRow w.heap.size 3 1 (.slice (some ⟨w.heap.size, 0, none⟩) 0 0) 0 [] := World.ownsRow_lit w #[] 0 (Nat.le_refl _) (by simp [maxLen]) rfl
  have hc' : ∀ j u, (ints xs)[j]? = some u → (w.alloc (.cells #[] 3)).cell? (a.add j) = some u := fun j u hj =>
    (World.cell?_of_block (Below.heap_alloc w _ _ (World.block_lt_of_cell? w _ (hc j u hj)))).trans (hc j u hj)
  go_enter Try.func42, Try.ntmps42
  go_wp2_with (
    at_builtin
    refine wpList_append_own _ rfl _ _ 25 rfl w.heap.size 3 i0 (.int .i64 0) 1 8 Try.underlying25 hi hz0 hz1 hz2 rfl (by decide) (.slice (some ⟨w.heap.size, 0, none⟩) 0 0) 0 [] rfl h0 a xs.length cap (ints xs) rfl (by simp) hc' (by intro u hu; simp [ints] at hu; obtain ⟨q, _, rfl⟩ := hu; simp [Value.oneCell']) (by simp only [maxLen]; omega) (by omega) (by simp) ?_
    intro v' w1 hown1 hgrow hnil)
  go_ret
  refine ⟨v', rfl, by simpa using hown1, fun e => ?_, ((Below.refl _ w).alloc (Nat.le_refl _) _).grown hgrow (by simp) (fun k e => by cases e; exact Nat.le_refl _)⟩
  have := (hnil.1 e).1
  cases this
end Go.Proofs.Ythneinepdbkgeaa
