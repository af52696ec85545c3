/- The walk of Ints. -/
import Derived.Test.YtfebcpmbkljaoaaMeaS
namespace Go.Proofs.Ytfebcpmbkljaoaa
open Go.RowKit Go.HR
set_option linter.unusedVariables false
set_option linter.unusedSimpArgs false
set_option linter.unusedSectionVars false
theorem take_more {xs ys : List Int} {k : Nat} {x y : Int} (h : xs.take k = ys.take k) (hx : xs[k]? = some x) (hy : ys[k]? = some y) : xs.take (k + 1) = ys.take (k + 1) ↔ x = y := by
  rw [List.take_add_one, List.take_add_one, hx, hy, h]
  simp
set_option maxRecDepth 100000 in
set_option maxHeartbeats 4000000 in
/-- Are two rows of numbers equal? -/
theorem ints_call (w : World) (s t : SL) (xs ys : List Int) (hs : IsI w s xs) (ht : IsI w t ys) (hl : xs.length ≤ 20000) (hl2 : ys.length ≤ 20000) : Calls Try.prog 26 #[s.v, t.v] w (RetD w (.bool (decide (xs = ys)))) := by
  obtain ⟨a, n, c⟩ := s
  obtain ⟨b, m, e⟩ := t
  obtain ⟨hn, hc, hs⟩ := hs
  obtain ⟨hm, he, ht⟩ := ht
  simp only at hn hm hs ht hc he
  simp only [SL.v]
  rw [← hn] at hl
  rw [← hm] at hl2
  have HN := Lib.hid hn
  have HM := Lib.hid hm
  have HS := Lib.hid hs
  have HT := Lib.hid ht
  clear hn hm hs ht
  by_cases hnm : n = m
  · subst hnm
    go_enter Try.func26, Try.ntmps26
    go_wp2_with (fail)
    go_loopw [13] (fun i wr => ∃ k d : Nat, k ≤ n ∧ i = .int .i64 k ∧ wr = w.drewN d ∧ xs.take k = ys.take k) (fun i _ => n - (intOf i).toNat)
    case atStart => exact ⟨0, 0, by omega, rfl, rfl, rfl⟩
    case round =>
      obtain ⟨k, d, hk, rfl, rfl, heq⟩ := hrel
      have HQ := Lib.hid heq
      clear heq
      obtain ⟨w2, hw2⟩ : ∃ w2, w2 = w.drewN d := ⟨_, rfl⟩
      rw [← hw2]
      have HW2 := Lib.hid hw2
      by_cases h1 : k < n
      · obtain ⟨x, hx⟩ : ∃ x, xs[k]? = some x := ⟨_, List.getElem?_eq_getElem (by rw [← HN.out]; omega)⟩
        obtain ⟨y, hy⟩ : ∃ y, ys[k]? = some y := ⟨_, List.getElem?_eq_getElem (by rw [← HM.out]; omega)⟩
        obtain ⟨g, o, rfl, hc1⟩ := HS.out.resolve_left (fun e => by rw [e] at hx; simp at hx)
        obtain ⟨g2, o2, rfl, hc2⟩ := HT.out.resolve_left (fun e => by rw [e] at hy; simp at hy)
        have c1 : ∀ q, (w2.drewN q).cell? ⟨g, o + k, none⟩ = some (.int .i64 x) := fun q => by rw [hw2]; exact hc1 k x hx
        have c2 : ∀ q, (w2.drewN q).cell? ⟨g2, o2 + k, none⟩ = some (.int .i64 y) := fun q => by rw [hw2]; exact hc2 k y hy
        have c3 := c1 0
        have c4 := c2 0
        have h3 := take_more HQ.out hx hy
        have hne : x ≠ y → decide (xs = ys) = false := fun e => decide_eq_false fun e2 => e (h3.1 (by rw [e2]))
        have HX := Lib.hid h3
        have HNE := Lib.hid hne
        clear hc1 hc2 hx hy h3 hw2 hne
        have b1 : (0 : Int) ≤ (k : Int) := by omega
        have b2 : (k : Int) < (n : Int) := by omega
        by_cases hxy : x = y
        · subst hxy
          go_wp2_with (fail)
          go_quiet (fail)
          go_wp2_with (fail)
          go_roundw
          case rel => exact ⟨k + 1, d + nq, by omega, by go_num, by rw [HW2.out]; simp, HX.out.2 (by trivial)⟩
          case measure => simp [intOf]; omega
        · have hd := HNE.out hxy
          rw [hd]
          go_wp2_with (fail)
          go_quiet (fail)
          go_wp2_with (fail)
          go_ret
          exact ⟨rfl, _, by rw [HW2.out]; simp; rfl⟩
      · have hkl : k = n := by omega
        have hE : decide (xs = ys) = true := decide_eq_true (by
          have e1 : xs.take k = xs := List.take_of_length_le (by rw [← HN.out]; omega)
          have e2 : ys.take k = ys := List.take_of_length_le (by rw [← HM.out]; omega)
          rw [← e1, ← e2]; exact HQ.out)
        rw [hE]
        have b4 : ¬ ((k : Int) < (n : Int)) := by omega
        clear hw2
        go_wp2_with (fail)
        go_ret
        exact ⟨rfl, d, HW2.out⟩
  · have hE : decide (xs = ys) = false := decide_eq_false fun e => hnm (by rw [HN.out, HM.out, e])
    rw [hE]
    have b1 : ((n : Int) == (m : Int)) = false := by simp; omega
    have b2 : ¬ (n : Int) = (m : Int) := by omega
    go_enter Try.func26, Try.ntmps26
    go_wp2_with (fail)
    go_ret
    exact ⟨rfl, 0, rfl⟩
end Go.Proofs.Ytfebcpmbkljaoaa
