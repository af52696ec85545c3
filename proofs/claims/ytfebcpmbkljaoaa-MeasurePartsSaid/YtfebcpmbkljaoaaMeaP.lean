/- The walk of rest. -/
import Derived.Test.YtfebcpmbkljaoaaMeaO
namespace Go.Proofs.Ytfebcpmbkljaoaa
open Go.RowKit Go.HR
set_option linter.unusedVariables false
set_option linter.unusedSimpArgs false
set_option linter.unusedSectionVars false
def sumW (ds : List StepD) : Nat := (ds.map (·.wt)).sum
mutual
theorem sum_goalsT (bad : StepD → Bool) (pl : List Nat) (w : Nat) : ∀ t : PT, sumW (goalsT bad pl w t).1 ≤ w
  | .node r o s => by
    simp only [goalsT]
    split
    · simp [sumW]
    · refine Nat.le_trans (sum_goalsF bad pl _ 0 s) ?_
      rw [Nat.mul_comm 2 s.length, ← Nat.div_div_eq_div_mul]
      have h1 : s.length * (w / s.length / 2) ≤ s.length * (w / s.length) := Nat.mul_le_mul_left _ (Nat.div_le_self _ _)
      exact Nat.le_trans h1 (Nat.mul_div_le _ _)
theorem sum_goalsF (bad : StepD → Bool) (pl : List Nat) (w : Nat) (i : Nat) : ∀ ts : List PT, sumW (goalsF bad pl w i ts).1 ≤ ts.length * w
  | [] => by simp [goalsF, sumW]
  | t :: ts => by
    have h1 := sum_goalsT bad (pl ++ [i]) w t
    have h2 := sum_goalsF bad pl w (i + 1) ts
    simp only [goalsF, sumW, List.map_append, List.sum_append, List.length_cons, Nat.add_mul, Nat.one_mul] at h1 h2 ⊢
    omega
end
theorem sum_goalsL (t : PT) (ws : List (List Int)) : sumW (goalsL t ws) ≤ whole := by
  unfold goalsL
  split
  · exact sum_goalsT _ _ _ t
  · simp [sumW]
/-- The whole, less the weights of goals. -/
def restN (ds : List StepD) : Nat := if ds = [] then whole else min (whole - sumW ds) (whole - 1)
theorem sumW_take {ds : List StepD} {k : Nat} {d : StepD} (h : ds[k]? = some d) : sumW (ds.take (k + 1)) = sumW (ds.take k) + d.wt := by
  obtain ⟨hl, he⟩ := List.getElem?_eq_some_iff.1 h
  rw [List.take_succ_eq_append_getElem hl, he]
  simp [sumW]
theorem sumW_le (ds : List StepD) (k : Nat) : sumW (ds.take k) ≤ sumW ds := by
  have h : sumW ds = sumW (ds.take k) + sumW (ds.drop k) := by
    rw [sumW, sumW, sumW, ← List.sum_append, ← List.map_append, List.take_append_drop]
  omega
/-- The cells of the goals, read. -/
theorem goal_at {W : World} {base : Nat} {v : Value} {gs : List StepV} (h : IsG W base v gs) {i : Nat} {x : StepV} (hx : gs[i]? = some x) : ∃ g cap, v = .slice (some ⟨g, 0, none⟩) gs.length cap ∧ W.cell? ⟨g, i * 2, none⟩ = some x.pv.v ∧ W.cell? ⟨g, i * 2 + 1, none⟩ = some (.int .i64 (x.d.wt : Nat)) := by
  rcases h.1.2 with ⟨h0, h1⟩ | ⟨g, cap, cur, hv, hg, hh, r⟩
  · have := (List.getElem?_eq_some_iff.1 hx).1; omega
  · refine ⟨g, cap, hv, ?_, ?_⟩
    · have := h.1.cells (g := g) (by rw [hv]; rfl) (i * 2 + 0) x.pv.v (by rw [flatG, flat_get (fun x : StepV => [x.pv.v, .int .i64 (x.d.wt : Nat)]) 2 (fun x => rfl) gs i 0 x hx (by omega)]; rfl)
      rwa [add_zero_at] at this
    · have := h.1.cells (g := g) (by rw [hv]; rfl) (i * 2 + 1) (.int .i64 (x.d.wt : Nat)) (by rw [flatG, flat_get (fun x : StepV => [x.pv.v, .int .i64 (x.d.wt : Nat)]) 2 (fun x => rfl) gs i 1 x hx (by omega)]; rfl)
      rwa [add_zero_at] at this
theorem goal_form {W : World} {base : Nat} {v : Value} {gs : List StepV} (h : IsG W base v gs) : ∃ a c, v = .slice a gs.length c := by
  rcases h.1.2 with ⟨h0, h1⟩ | ⟨g, cap, cur, hv, _⟩
  · exact ⟨none, 0, by rw [h0, h1]⟩
  · exact ⟨_, _, hv⟩
theorem IsG.below {W W' : World} {base : Nat} {v : Value} {gs : List StepV} (h : IsG W base v gs) (hb : Below W.heap.size W W') : IsG W' base v gs := by
  refine ⟨⟨h.1.1, ?_⟩, fun x hx => (h.2 x hx).same fun k hk => hb.block k ((h.2 x hx).lt hk)⟩
  rcases h.1.2 with h0 | ⟨g, cap, cur, hv, hg, hh, r⟩
  · exact .inl h0
  · exact .inr ⟨g, cap, cur, hv, hg, (hb.block g (HK.blk_lt hh)).trans hh, r⟩
set_option maxRecDepth 100000 in
set_option maxHeartbeats 4000000 in
theorem rest_call (w : World) (base : Nat) (v : Value) (gs : List StepV) (hG : IsG w base v gs) (hs : sumW (gs.map (·.d)) ≤ whole) (hl : gs.length ≤ 20000) : Calls Try.prog 42 #[v] w (RetB w (.int .i64 (restN (gs.map (·.d)) : Nat))) := by
  obtain ⟨a, c, rfl⟩ := goal_form hG
  obtain ⟨n, hn⟩ : ∃ n, n = gs.length := ⟨_, rfl⟩
  rw [← hn] at hG hl ⊢
  have HN := Lib.hid hn
  have HG := Lib.hid hG
  have HS := Lib.hid hs
  clear hn hG hs
  go_enter Try.func42, Try.ntmps42
  go_wp2_with (fail)
  go_loopw [3, 8] (fun r i wr => ∃ (k q : Nat), k ≤ n ∧ i = .int .i64 k ∧ r = .int .i64 q ∧ q + sumW ((gs.map (·.d)).take k) = 1152921504606846976 ∧ Below w.heap.size w wr) (fun _ i _ => n - (intOf i).toNat)
  case atStart => exact ⟨0, 1152921504606846976, by omega, rfl, rfl, by simp [sumW], Below.refl _ _⟩
  case round =>
    obtain ⟨k, q, hk, rfl, rfl, hq, hB⟩ := hrel
    have HB := Lib.hid hB
    have hq1 : q ≤ 1152921504606846976 := by omega
    have HQ := Lib.hid hq
    clear hB hq
    by_cases h1 : k < n
    · obtain ⟨x, hx⟩ : ∃ x, gs[k]? = some x := ⟨_, List.getElem?_eq_getElem (by rw [← HN.out]; exact h1)⟩
      obtain ⟨g, cap, hv, c0, c1⟩ := goal_at (HG.out.below HB.out) hx
      simp only [Value.slice.injEq] at hv
      obtain ⟨rfl, _, rfl⟩ := hv
      obtain ⟨wt, hwt⟩ : ∃ wt, wt = x.d.wt := ⟨_, rfl⟩
      obtain ⟨⟨d, ⟨pa, pn, pc⟩, sv⟩, rfl⟩ : ∃ y : StepV, y = x := ⟨_, rfl⟩
      simp only [SL.v] at c0
      rw [← hwt] at c1
      have hst := sumW_take (ds := gs.map (·.d)) (k := k) (d := d) (by rw [List.getElem?_map, hx]; rfl)
      have hle := sumW_le (gs.map (·.d)) (k + 1)
      have hS := HS.out
      simp only [whole] at hS
      have hq2 : wt ≤ q := by have := HQ.out; simp only at hwt; omega
      have hz : (q : Int) - (wt : Int) = ((q - wt : Nat) : Int) := by omega
      have hq3 : q - wt + sumW ((gs.map (·.d)).take (k + 1)) = 1152921504606846976 := by have := HQ.out; simp only at hwt; omega
      obtain ⟨q', hq'⟩ : ∃ q', q' = q - wt := ⟨_, rfl⟩
      rw [← hq'] at hz hq3
      have hq4 : q' ≤ 1152921504606846976 := by omega
      have HQ3 := Lib.hid hq3
      have b2 : (0 : Int) ≤ (k : Int) := by omega
      have b3 : (k : Int) < (n : Int) := by omega
      clear hx hwt hst hle hS hq3 hq'
      go_wp2_with (fail)
      go_roundw
      case rel => exact ⟨k + 1, q', by omega, by go_num, by go_num, HQ3.out, HB.out.alloc HB.out.size _⟩
      case measure => simp [intOf]; omega
    · have hkn : k = n := by omega
      subst hkn
      have b3 : ¬ ((k : Int) < (k : Int)) := by omega
      have hfull : sumW (gs.map (·.d)) + q = 1152921504606846976 := by
        have := HQ.out; rw [HN.out, List.take_of_length_le (by simp)] at this; omega
      by_cases h0 : (0 : Int) < (k : Int)
      · have hr : restN (gs.map (·.d)) = min q 1152921504606846975 := by
          have hne : gs ≠ [] := by intro e; have := HN.out; rw [e] at this; simp at this; omega
          simp only [restN, List.map_eq_nil_iff, hne, if_false, whole]; congr 1; omega
        have HR := Lib.hid hr
        clear hr hfull
        by_cases hq5 : (q : Int) ≤ 1152921504606846975
        · have hmin : min q 1152921504606846975 = q := by omega
          have hmin2 : min (q : Int) 1152921504606846975 = (q : Int) := by omega
          have HM := Lib.hid hmin
          clear hmin
          go_wp2_with (fail)
          go_ret
          exact ⟨by rw [HR.out, HM.out]; rfl, HB.out⟩
        · have hmin : min q 1152921504606846975 = 1152921504606846975 := by omega
          have hmin2 : min (q : Int) 1152921504606846975 = 1152921504606846975 := by omega
          have HM := Lib.hid hmin
          clear hmin
          go_wp2_with (fail)
          go_ret
          exact ⟨by rw [HR.out, HM.out]; rfl, HB.out⟩
      · have hr : restN (gs.map (·.d)) = q := by
          have he : gs = [] := List.length_eq_zero_iff.1 (by rw [← HN.out]; omega)
          rw [he] at hfull ⊢
          simp only [restN, List.map_nil, if_true, whole]; simp [sumW] at hfull; omega
        have HR := Lib.hid hr
        clear hr hfull
        go_wp2_with (fail)
        go_ret
        exact ⟨by rw [HR.out]; rfl, HB.out⟩
end Go.Proofs.Ytfebcpmbkljaoaa
