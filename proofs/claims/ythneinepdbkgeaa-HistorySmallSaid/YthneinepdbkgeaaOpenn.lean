/- The walk of Open where it refuses. -/
import Derived.Test.YthneinepdbkgeaaOpen
namespace Go.Proofs.Ythneinepdbkgeaa
open Go.RowKit Go.HK
set_option linter.unusedVariables false
set_option linter.unusedSimpArgs false
set_option linter.unusedSectionVars false
set_option maxRecDepth 100000 in
set_option maxHeartbeats 8000000 in
theorem open_no (w : World) (g n c : Nat) (es : List Ent) (x : Int) (hes : EntsAt w g es) (hlen : es.length = n) (hn : n ≤ 1000) (hS : Short es) (hR : ¬ Right es x) : Calls Try.prog 27 #[.slice (some ⟨g, 0, none⟩) n c, .int .i64 x] w fun e w' => e = .returned (.tuple #[.pointer none, .int .i64 2]) ∧ Below w.heap.size w w' := by
  have HES := Lib.hid hes
  have HLEN := Lib.hid hlen
  have HS := Lib.hid hS
  have HR := Lib.hid hR
  clear hes hlen hS hR
  go_enter Try.func27, Try.ntmps27
  go_wp2_with (fail)
  go_loopw [16] (fun i wr => ∃ k : Nat, k ≤ n ∧ i = .int .i64 k ∧ Below w.heap.size w wr) (fun i _ => n - (intOf i).toNat)
  case atStart => exact ⟨0, by omega, rfl, Below.refl _ _⟩
  case round =>
    obtain ⟨k, hk, rfl, hB⟩ := hrel
    have HB := Lib.hid hB
    by_cases hkn : k < n
    · have d1 : decide (k < n) = true := decide_eq_true hkn
      have a0 : (0 : Int) ≤ (k : Int) := by omega
      have a1 : (k : Int) < (n : Int) := by omega
      obtain ⟨y, hy⟩ : ∃ y, es[k]? = some y := ⟨_, List.getElem?_eq_getElem (by rw [HLEN.out]; exact hkn)⟩
      obtain ⟨c0, c1, c2, c3⟩ := (HES.out.below hB (Nat.le_refl _)).c k y hy
      obtain ⟨s1, s2⟩ := HS.out k y hy
      obtain ⟨P, T, M, S⟩ := y
      simp only at c0 c1 c2 c3 s1 s2
      have s3 : decide (16384 < S.size) = false := decide_eq_false (by omega)
      have s4 : decide (100 < M.size) = false := decide_eq_false (by omega)
      clear hy hB
      go_wp2_with (fail)
      go_roundw
      case rel => exact ⟨k + 1, by omega, by go_num, HB.out.alloc HB.out.size _⟩
      case measure => simp [intOf]; omega
    · have d1 : decide (k < n) = false := decide_eq_false hkn
      obtain ⟨we, rfl⟩ : ∃ we : World, we = wr := ⟨_, rfl⟩
      clear hB
      go_wp2_with (go_at_call 44; ((with_reducible refine (right_no we g n c es x (HES.out.below HB.out (Nat.le_refl _)) HLEN.out hn HR.out).mono ?_); rintro e w2 ⟨rfl, hB2⟩; have HB2 := Lib.hid (HB.out.trans (hB2.mono HB.out.size)); clear hB2))
      go_ret2
      exact ⟨rfl, HB2.out⟩
set_option maxRecDepth 100000 in
set_option maxHeartbeats 8000000 in
theorem open_full (w : World) (a : Option Addr) (n c : Nat) (x : Int) (hn : 1000 < n) (hm : n ≤ maxLen) : Calls Try.prog 27 #[.slice a n c, .int .i64 x] w fun e w' => e = .returned (.tuple #[.pointer none, .int .i64 4]) ∧ w = w' := by
  unfold maxLen at hm
  have d0 : (1000 : Int) < (n : Int) := by omega
  go_enter Try.func27, Try.ntmps27
  go_wp2_with (fail)
  go_ret2
  exact ⟨rfl, rfl⟩
set_option maxRecDepth 100000 in
set_option maxHeartbeats 8000000 in
theorem open_long (w : World) (g n c : Nat) (es : List Ent) (x : Int) (hes : EntsAt w g es) (hlen : es.length = n) (hn : n ≤ 1000) (hz : ∀ (j : Nat) (y : Ent), es[j]? = some y → y.state.size ≤ maxLen ∧ y.note.size ≤ maxLen) (i : Nat) (hS : ∀ (j : Nat) (y : Ent), j < i → es[j]? = some y → y.state.size ≤ 16384 ∧ y.note.size ≤ 100) (yi : Ent) (hi : es[i]? = some yi) (hL : ¬ (yi.state.size ≤ 16384 ∧ yi.note.size ≤ 100)) : Calls Try.prog 27 #[.slice (some ⟨g, 0, none⟩) n c, .int .i64 x] w fun e w' => e = .returned (.tuple #[.pointer none, .int .i64 3]) ∧ Below w.heap.size w w' := by
  have HES := Lib.hid hes
  have HLEN := Lib.hid hlen
  have HS := Lib.hid hS
  have HZ := Lib.hid hz
  have HI := Lib.hid hi
  have HL := Lib.hid hL
  have hil : i < n := by have := (List.getElem?_eq_some_iff.1 hi).1; omega
  clear hes hlen hS hz hi hL
  go_enter Try.func27, Try.ntmps27
  go_wp2_with (fail)
  go_loopw [16] (fun v wr => ∃ k : Nat, k ≤ i ∧ v = .int .i64 k ∧ Below w.heap.size w wr) (fun v _ => n - (intOf v).toNat)
  case atStart => exact ⟨0, by omega, rfl, Below.refl _ _⟩
  case round =>
    obtain ⟨k, hk, rfl, hB⟩ := hrel
    have HB := Lib.hid hB
    have d1 : decide (k < n) = true := decide_eq_true (by omega)
    have a0 : (0 : Int) ≤ (k : Int) := by omega
    have a1 : (k : Int) < (n : Int) := by omega
    by_cases hkn : k < i
    · obtain ⟨y, hy⟩ : ∃ y, es[k]? = some y := ⟨_, List.getElem?_eq_getElem (by rw [HLEN.out]; omega)⟩
      obtain ⟨c0, c1, c2, c3⟩ := (HES.out.below hB (Nat.le_refl _)).c k y hy
      obtain ⟨s1, s2⟩ := HS.out k y hkn hy
      obtain ⟨P, T, M, S⟩ := y
      simp only at c0 c1 c2 c3 s1 s2
      have s3 : decide (16384 < S.size) = false := decide_eq_false (by omega)
      have s4 : decide (100 < M.size) = false := decide_eq_false (by omega)
      clear hy hB
      go_wp2_with (fail)
      go_roundw
      case rel => exact ⟨k + 1, by omega, by go_num, HB.out.alloc HB.out.size _⟩
      case measure => simp [intOf]; omega
    · obtain rfl : k = i := by omega
      obtain ⟨c0, c1, c2, c3⟩ := (HES.out.below hB (Nat.le_refl _)).c k yi HI.out
      obtain ⟨z1, z2⟩ := HZ.out k yi HI.out
      have hl := HL.out
      obtain ⟨P, T, M, S⟩ := yi
      simp only at c0 c1 c2 c3 z1 z2 hl
      unfold maxLen at z1 z2
      clear hB
      by_cases hs : S.size ≤ 16384
      · have s3 : decide (16384 < S.size) = false := decide_eq_false (by omega)
        have s4 : (100 : Int) < (M.size : Int) := by omega
        clear hl
        go_wp2_with (fail)
        go_ret2
        exact ⟨rfl, HB.out.alloc HB.out.size _⟩
      · have s3 : (16384 : Int) < (S.size : Int) := by omega
        clear hl
        go_wp2_with (fail)
        go_ret2
        exact ⟨rfl, HB.out.alloc HB.out.size _⟩
end Go.Proofs.Ythneinepdbkgeaa
