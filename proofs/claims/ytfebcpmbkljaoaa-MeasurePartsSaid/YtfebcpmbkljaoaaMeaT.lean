/- The walk of less. -/
import Derived.Test.YtfebcpmbkljaoaaMeaS
namespace Go.Proofs.Ytfebcpmbkljaoaa
open Go.RowKit Go.HR
set_option linter.unusedVariables false
set_option linter.unusedSimpArgs false
set_option linter.unusedSectionVars false
set_option maxRecDepth 100000 in
set_option maxHeartbeats 4000000 in
/-- At places that come one before the other. -/
theorem less_call (w : World) (s t : SL) (xs ys : List Int) (hs : IsI w s xs) (ht : IsI w t ys) (hl : xs.length ≤ 20000) (hl2 : ys.length ≤ 20000) : Calls Try.prog 13 #[s.v, t.v] w (RetD w (.bool (decide (ordI xs ys < 0)))) := by
  obtain ⟨a, n, c⟩ := s
  obtain ⟨b, m, e⟩ := t
  obtain ⟨hn, hc, hs⟩ := hs
  obtain ⟨hm, he, ht⟩ := ht
  simp only at hn hm hs ht hc he
  simp only [SL.v]
  rw [← hn] at hl
  rw [← hm] at hl2
  obtain ⟨l, hlm⟩ : ∃ l, l = min n m := ⟨_, rfl⟩
  have hmin : min (n : Int) (m : Int) = (l : Int) := by omega
  have l1 : l ≤ n := by omega
  have l2 : l ≤ m := by omega
  have HN := Lib.hid hn
  have HM := Lib.hid hm
  have HS := Lib.hid hs
  have HT := Lib.hid ht
  have HLM := Lib.hid hlm
  clear hn hm hs ht hlm
  by_cases hnm : (n : Int) ≤ (m : Int)
  all_goals
    go_enter Try.func13, Try.ntmps13
    go_wp2_with (fail)
    go_loopw [11] (fun i wr => ∃ k d : Nat, k ≤ l ∧ i = .int .i64 k ∧ wr = w.drewN d ∧ ordI xs ys = ordI (xs.drop k) (ys.drop k)) (fun i _ => l - (intOf i).toNat)
    case atStart => exact ⟨0, 0, by omega, rfl, rfl, rfl⟩
    case round =>
      obtain ⟨k, d, hk, rfl, rfl, heq⟩ := hrel
      have HQ := Lib.hid heq
      clear heq
      obtain ⟨w2, hw2⟩ : ∃ w2, w2 = w.drewN d := ⟨_, rfl⟩
      rw [← hw2]
      have HW2 := Lib.hid hw2
      by_cases h1 : k < l
      · obtain ⟨x, hx⟩ : ∃ x, xs[k]? = some x := ⟨_, List.getElem?_eq_getElem (by rw [← HN.out]; omega)⟩
        obtain ⟨y, hy⟩ : ∃ y, ys[k]? = some y := ⟨_, List.getElem?_eq_getElem (by rw [← HM.out]; omega)⟩
        obtain ⟨g, o, rfl, hc1⟩ := HS.out.resolve_left (fun e => by rw [e] at hx; simp at hx)
        obtain ⟨g2, o2, rfl, hc2⟩ := HT.out.resolve_left (fun e => by rw [e] at hy; simp at hy)
        have c1 : ∀ q, (w2.drewN q).cell? ⟨g, o + k, none⟩ = some (.int .i64 x) := fun q => by rw [hw2]; exact hc1 k x hx
        have c2 : ∀ q, (w2.drewN q).cell? ⟨g2, o2 + k, none⟩ = some (.int .i64 y) := fun q => by rw [hw2]; exact hc2 k y hy
        have c3 := c1 0
        have c4 := c2 0
        have h3 := ordI_at HQ.out hx hy
        have HX := Lib.hid h3
        clear hc1 hc2 hx hy h3 hw2
        have b1 : (0 : Int) ≤ (k : Int) := by omega
        have b2 : (k : Int) < (n : Int) := by omega
        have b3 : (k : Int) < (m : Int) := by omega
        have b4 : (k : Int) < (l : Int) := by omega
        by_cases hxy : x = y
        · subst hxy
          go_wp2_with (fail)
          go_quiet (fail)
          go_wp2_with (fail)
          go_roundw
          case rel => exact ⟨k + 1, d + nq, by omega, by go_num, by rw [HW2.out]; simp, by rw [HX.out, if_pos (by simp [cmpI])]⟩
          case measure => simp [intOf]; omega
        · have hv : decide (ordI xs ys < 0) = decide (x < y) := by
            rw [HX.out]; simp only [cmpI]
            by_cases hlt : x < y
            · simp [hlt]
            · have : y < x := by omega
              simp [hlt, this]
          have HV := Lib.hid hv
          clear hv
          go_wp2_with (fail)
          go_quiet (fail)
          go_wp2_with (fail)
          go_quiet (fail)
          go_wp2_with (fail)
          go_ret
          exact ⟨by rw [HV.out]; rfl, _, by rw [HW2.out]; simp; rfl⟩
      · have hkl : k = l := by omega
        have hE := ordI_end HQ.out (by rw [← HN.out, ← HM.out]; have := HLM.out; omega) (by rw [← HN.out]; omega) (by rw [← HM.out]; omega)
        have hv : decide (ordI xs ys < 0) = decide (n < m) := by
          have : ordI xs ys < 0 ↔ n < m := by
            rw [hE, ← HN.out, ← HM.out]; unfold cmpI
            split
            · omega
            · first | omega | (split <;> omega)
          simp only [this]
        have HV := Lib.hid hv
        have b4 : ¬ ((k : Int) < (l : Int)) := by omega
        clear hE hv hw2
        go_wp2_with (fail)
        go_ret
        exact ⟨by rw [HV.out]; rfl, d, HW2.out⟩
end Go.Proofs.Ytfebcpmbkljaoaa
