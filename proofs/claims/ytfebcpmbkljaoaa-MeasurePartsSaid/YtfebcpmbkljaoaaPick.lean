/- The walks of pick, sum and left. -/
import Derived.Test.YtfebcpmbkljaoaaFit
namespace Go.Proofs.Ytfebcpmbkljaoaa
open Go.RowKit Go.HR
set_option linter.unusedVariables false
set_option linter.unusedSimpArgs false
set_option linter.unusedSectionVars false
theorem rem_small (a L : Nat) (ha : a ≤ 255) : (IntKind.i64.wrap (a : Int)).tmod (L : Int) = ((a % L : Nat) : Int) := by
  rw [IntWalk.i64_in _ (by omega), Int.tmod_eq_emod_of_nonneg (by omega)]; omega
set_option maxRecDepth 100000 in
set_option maxHeartbeats 2000000 in
theorem pick_nil (w : World) (a : Option Addr) (c : Nat) (b : Value) : Calls Try.prog 27 #[.slice a 0 c, b] w fun e w' => e = .returned (.tuple #[.agg #[.slice none 0 0, .int .i64 0], .bool false]) ∧ Below w.heap.size w w' := by
  go_enter Try.func27, Try.ntmps27
  go_wp2_with (fail)
  refine bodyPost_ret (results_row_tmp (p := 4) (u := 5) (by kernel_rfl) _ _ w.heap.size 39 _ (0, 0) _ (.bool false) rfl rfl (HK.blk_new _ _) Try.underlying39 rfl (by kernel_rfl)) rfl ?_
  exact ⟨rfl, (Below.refl _ w).alloc (Nat.le_refl _) _⟩
set_option maxRecDepth 100000 in
set_option maxHeartbeats 2000000 in
theorem pick_some (w : World) (base g n c b i wt : Nat) (gs : List StepV) (pa : Option Addr) (pn pc : Nat) (hb : b ≤ 255) (hn : n = gs.length) (hn2 : n ≤ 300) (hG : IsG w base (.slice (some ⟨g, 0, none⟩) n c) gs) (hi : i = b % n) (hin : i < n)
    (c0 : w.cell? ⟨g, i * 2, none⟩ = some (.slice pa pn pc)) (c1 : w.cell? ⟨g, i * 2 + 1, none⟩ = some (.int .i64 (wt : Nat))) :
    Calls Try.prog 27 #[.slice (some ⟨g, 0, none⟩) n c, .int .u8 b] w fun e w' => e = .returned (.tuple #[.agg #[.slice pa pn pc, .int .i64 (wt : Nat)], .bool true]) ∧ Below w.heap.size w w' := by
  have hrem := rem_small b n hb
  rw [← hi] at hrem
  have hrem2 : (b : Int) % (n : Int) = (i : Int) := by rw [hi, Int.natCast_emod]
  have hi2 := hi.symm
  have b0 : ((n : Int) == 0) = false := by simp; omega
  have b1 : ¬ (n : Int) = 0 := by omega
  have b2 : (0 : Int) ≤ (i : Int) := by omega
  have b3 : (i : Int) < (n : Int) := by omega
  have hal := (Below.refl _ w).alloc (Nat.le_refl _) (.cells #[.slice none 0 0, .int .i64 0] 39)
  have e0 := fun o => cell_then c0 ((Below.refl _ w).alloc (Nat.le_refl _) o)
  have e1 := fun o => cell_then c1 ((Below.refl _ w).alloc (Nat.le_refl _) o)
  clear hi hn hG c0 c1 hal
  go_enter Try.func27, Try.ntmps27
  go_wp2_with (fail)
  refine bodyPost_ret (results_row_tmp (p := 4) (u := 5) (by kernel_rfl) _ _ w.heap.size 39 _ (0, 0) _ (.bool true) rfl rfl (HK.blk_new _ _) Try.underlying39 rfl (by kernel_rfl)) rfl ?_
  exact ⟨rfl, (Below.refl _ w).alloc (Nat.le_refl _) _⟩
set_option maxRecDepth 100000 in
set_option maxHeartbeats 4000000 in
theorem sum_call (w : World) (base : Nat) (v : Value) (gs : List StepV) (hG : IsG w base v gs) (hs : sumW (gs.map (·.d)) ≤ whole) (hl : gs.length ≤ 20000) : Calls Try.prog 30 #[v] w (RetB w (.int .i64 (sumW (gs.map (·.d)) : Nat))) := by
  obtain ⟨a, c, rfl⟩ := goal_form hG
  obtain ⟨n, hn⟩ : ∃ n, n = gs.length := ⟨_, rfl⟩
  rw [← hn] at hG hl ⊢
  have HN := Lib.hid hn
  have HG := Lib.hid hG
  have HS := Lib.hid hs
  clear hn hG hs
  go_enter Try.func30, Try.ntmps30
  go_wp2_with (fail)
  go_loopw [3, 8] (fun r i wr => ∃ k q : Nat, k ≤ n ∧ i = .int .i64 k ∧ r = .int .i64 q ∧ q = sumW ((gs.map (·.d)).take k) ∧ Below w.heap.size w wr) (fun _ i _ => n - (intOf i).toNat)
  case atStart => exact ⟨0, 0, by omega, rfl, rfl, by simp [sumW], Below.refl _ _⟩
  case round =>
    obtain ⟨k, q, hk, rfl, rfl, hq, hB⟩ := hrel
    have HB := Lib.hid hB
    have hq1 : q ≤ 1152921504606846976 := by have := sumW_le (gs.map (·.d)) k; have h9 := HS.out; simp only [whole] at h9; omega
    have HQ := Lib.hid hq
    clear hB hq
    by_cases h1 : k < n
    · obtain ⟨x, hx⟩ : ∃ x, gs[k]? = some x := ⟨_, List.getElem?_eq_getElem (by rw [← HN.out]; exact h1)⟩
      obtain ⟨g, cap, hv, c0, c1⟩ := goal_at (HG.out.below HB.out) hx
      simp only [Value.slice.injEq] at hv
      obtain ⟨rfl, _, rfl⟩ := hv
      obtain ⟨wt, hwt⟩ : ∃ wt, wt = x.d.wt := ⟨_, rfl⟩
      obtain ⟨⟨d, ⟨pa, pn, pc⟩, sv⟩, rfl⟩ : ∃ y : StepV, y = x := ⟨_, rfl⟩
      simp only [SL.v] at c0
      rw [← hwt] at c1
      have hst := sumW_take (ds := gs.map (·.d)) (k := k) (d := d) (by rw [List.getElem?_map, hx]; rfl)
      have hle := sumW_le (gs.map (·.d)) (k + 1)
      have hS := HS.out
      simp only [whole] at hS
      have hq3 : q + wt = sumW ((gs.map (·.d)).take (k + 1)) := by have := HQ.out; simp only at hwt; omega
      have hq4 : q + wt ≤ 1152921504606846976 := by omega
      have HQ3 := Lib.hid hq3
      have b2 : (0 : Int) ≤ (k : Int) := by omega
      have b3 : (k : Int) < (n : Int) := by omega
      clear hx hwt hst hle hS hq3
      go_wp2_with (fail)
      go_roundw
      case rel => exact ⟨k + 1, q + wt, by omega, by go_num, by go_num, HQ3.out, HB.out.alloc HB.out.size _⟩
      case measure => simp [intOf]; omega
    · have hkn : k = n := by omega
      subst hkn
      have b3 : ¬ ((k : Int) < (k : Int)) := by omega
      have hfull : sumW (gs.map (·.d)) = q := by
        have := HQ.out; rw [HN.out, List.take_of_length_le (by simp)] at this; omega
      have HFU := Lib.hid hfull
      clear hfull
      go_wp2_with (fail)
      go_ret
      exact ⟨by rw [HFU.out]; rfl, HB.out⟩
set_option maxRecDepth 100000 in
set_option maxHeartbeats 4000000 in
theorem left_call (w : World) (base : Nat) (v : Value) (gs : List StepV) (hG : IsG w base v gs) (hs : sumW (gs.map (·.d)) ≤ whole) (hl : gs.length ≤ 20000) : Calls Try.prog 29 #[v] w (RetB w (.int .i64 (restN (gs.map (·.d)) : Nat))) := by
  have hsum := sum_call w base v gs hG hs hl
  obtain ⟨a, c, rfl⟩ := goal_form hG
  obtain ⟨n, hn⟩ : ∃ n, n = gs.length := ⟨_, rfl⟩
  obtain ⟨S, hS⟩ : ∃ S, S = sumW (gs.map (·.d)) := ⟨_, rfl⟩
  have hr : restN (gs.map (·.d)) = if n = 0 then 1152921504606846976 else min (1152921504606846976 - S) 1152921504606846975 := by
    unfold restN
    rw [hS, hn]
    simp only [List.map_eq_nil_iff, List.length_eq_zero_iff]; rfl
  rw [hr]
  rw [← hS] at hsum hs
  simp only [whole] at hs
  rw [← hn] at hsum hl ⊢
  have HSU := Lib.hid hsum
  have hs2 : S ≤ 1152921504606846976 := hs
  clear hn hG hs hS hr hsum
  by_cases h0 : n = 0
  · subst h0
    go_enter Try.func29, Try.ntmps29
    go_wp2_with (fail)
    go_ret
    exact ⟨rfl, Below.refl _ _⟩
  · have b0 : ((n : Int) == 0) = false := by simp; omega
    have b1 : ¬ (n : Int) = 0 := by omega
    by_cases h5 : (1152921504606846976 : Int) - (S : Int) ≤ 1152921504606846975
    · have hmn : (1152921504606846976 : Int) - (S : Int) = ((min (1152921504606846976 - S) 1152921504606846975 : Nat) : Int) := by omega
      have hmn2 : min ((1152921504606846976 : Int) - (S : Int)) 1152921504606846975 = (1152921504606846976 : Int) - (S : Int) := by omega
      have HMN := Lib.hid hmn
      clear hmn
      go_enter Try.func29, Try.ntmps29
      go_wp2_with (go_at_call 30; (refine HSU.out.mono ?_; rintro e w' ⟨rfl, hB⟩))
      go_ret
      exact ⟨by rw [← HMN.out]; rfl, hB⟩
    · have hmn : (1152921504606846975 : Int) = ((min (1152921504606846976 - S) 1152921504606846975 : Nat) : Int) := by omega
      have hmn2 : min ((1152921504606846976 : Int) - (S : Int)) 1152921504606846975 = 1152921504606846975 := by omega
      have HMN := Lib.hid hmn
      clear hmn
      go_enter Try.func29, Try.ntmps29
      go_wp2_with (go_at_call 30; (refine HSU.out.mono ?_; rintro e w' ⟨rfl, hB⟩))
      go_ret
      exact ⟨by rw [← HMN.out]; rfl, hB⟩
end Go.Proofs.Ytfebcpmbkljaoaa
