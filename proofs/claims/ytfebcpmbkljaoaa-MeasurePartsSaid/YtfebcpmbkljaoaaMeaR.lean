/- The walks of Progress and Permille. -/
import Derived.Test.YtfebcpmbkljaoaaMeaQ
namespace Go.Proofs.Ytfebcpmbkljaoaa
open Go.RowKit Go.HR
set_option linter.unusedVariables false
set_option linter.unusedSimpArgs false
set_option linter.unusedSectionVars false
def progL (t : PT) (ws : List (List Int)) : Nat := if codeL t ws = 0 then restN (goalsL t ws) else 0
def permL (t : PT) (ws : List (List Int)) : Nat := if codeL t ws = 0 then (if goalsL t ws = [] then 1000 else min (1000 * restN (goalsL t ws) / 1152921504606846976) 999) else 0
theorem codeL_cases (t : PT) (ws : List (List Int)) : codeL t ws = 0 ∨ codeL t ws = 2 ∨ codeL t ws = 6 := by
  unfold codeL; split
  · split <;> simp
  · simp
theorem restN_le (ds : List StepD) : restN ds ≤ 1152921504606846976 := by
  unfold restN whole; split <;> omega
mutual
theorem len_goalsT (bad : StepD → Bool) (pl : List Nat) (w : Nat) : ∀ t : PT, (goalsT bad pl w t).1.length ≤ sizeT t
  | .node r o s => by
    simp only [goalsT, sizeT]
    split
    · simp
    · have := len_goalsF bad pl (w / (2 * s.length)) 0 s; simp only; omega
theorem len_goalsF (bad : StepD → Bool) (pl : List Nat) (w : Nat) (i : Nat) : ∀ ts : List PT, (goalsF bad pl w i ts).1.length ≤ sizeF ts
  | [] => by simp [goalsF]
  | t :: ts => by
    have h1 := len_goalsT bad (pl ++ [i]) w t
    have h2 := len_goalsF bad pl w (i + 1) ts
    simp only [goalsF, List.length_append, sizeF]; omega
end
theorem len_goalsL (t : PT) (ws : List (List Int)) : (goalsL t ws).length ≤ 300 := by
  unfold goalsL
  split
  · rename_i h
    have hm : measT t = true := by
      unfold codeL at h; split at h
      · assumption
      · cases h
    exact Nat.le_trans (len_goalsT _ _ _ t) (meas_size hm)
  · simp
theorem or_halves (r : Nat) (hr : r ≤ 1152921504606846976) : bits .or .u64 (1000 * (r : Int) / 18446744073709551616 * 16) (1000 * (r : Int) % 18446744073709551616 / 1152921504606846976) = ((1000 * r / 1152921504606846976 : Nat) : Int) := by
  have e1 : (1000 * (r : Int) / 18446744073709551616 * 16) = ((1000 * r / 18446744073709551616 * 16 : Nat) : Int) := by omega
  have e2 : (1000 * (r : Int) % 18446744073709551616 / 1152921504606846976) = ((1000 * r % 18446744073709551616 / 1152921504606846976 : Nat) : Int) := by omega
  rw [e1, e2, bits_or_u64_nat _ _ (by omega) (by omega)]
  have h := Nat.shiftLeft_add_eq_or_of_lt (i := 4) (b := 1000 * r % 18446744073709551616 / 1152921504606846976) (by omega) (1000 * r / 18446744073709551616)
  rw [Nat.shiftLeft_eq] at h
  rw [show (2 : Nat) ^ 4 = 16 from rfl] at h
  rw [← h]
  omega
section
variable (w : World) (t : PT) (sv s : SL) (ws : List (List Int)) (hs : IsPs w.heap.size w sv t.subs) (hsz : sizeT t ≤ 10000) (hw : IsW w s ws) (hwl : ws.length ≤ 20000) (hwu : ∀ u ∈ ws, u.length ≤ 20000)
include hs hsz hw hwl hwu
set_option maxRecDepth 100000 in
set_option maxHeartbeats 2000000 in
theorem progress_call : Calls Try.prog 17 #[.agg (t.arr sv), s.v] w (RetS2 w (progL t ws : Nat) (codeL t ws : Nat)) := by
  have h := look_box w t sv s ws hs hsz hw hwl hwu
  have hr := fun (W : World) (b : Nat) (v : Value) (gs : List StepV) (hg : gs.map (·.d) = goalsL t ws) (hG : IsG W b v gs) => rest_call W b v gs hG (by rw [hg]; exact sum_goalsL t ws) (by have := len_goalsL t ws; rw [← hg] at this; simp at this; omega)
  obtain ⟨a0, a1, a2, a3, a4, a5, a6, a7, hA⟩ : ∃ a0 a1 a2 a3 a4 a5 a6 a7, t.arr sv = #[a0, a1, a2, a3, a4, a5, a6, a7] := ⟨_, _, _, _, _, _, _, _, rfl⟩
  rw [hA] at h ⊢
  have hcc := codeL_cases t ws
  obtain ⟨c, hc⟩ : ∃ c, c = codeL t ws := ⟨_, rfl⟩
  rw [← hc] at h hcc ⊢
  have H := Lib.hid h
  have HR := Lib.hid hr
  have HCD := Lib.hid hc
  clear h hr hs hsz hw hwl hwu hA hc
  rcases hcc with rfl | rfl | rfl
  · go_enter Try.func17, Try.ntmps17
    go_wp2_with (
      first
      | (go_at_call 40; (refine (H.out _).mono ?_; rintro e w' ⟨v, gs, rfl, h1, h2, h3⟩; have hq := HR.out w' _ v gs h1 h2; rw [h1] at hq; have HQ := Lib.hid hq; have HB3 := Lib.hid h3; clear h1 h2 h3 hq))
      | (go_at_call 42; (refine HQ.out.mono ?_; rintro e w'' ⟨rfl, hB2⟩)))
    go_ret2
    exact ⟨by rw [progL, ← HCD.out, if_pos rfl]; rfl, HB3.out.trans (hB2.mono HB3.out.size)⟩
  · go_enter Try.func17, Try.ntmps17
    go_wp2_with (go_at_call 40; (refine (H.out _).mono ?_; rintro e w' ⟨v, gs, rfl, h1, h2, h3⟩))
    go_ret2
    exact ⟨by rw [progL, ← HCD.out, if_neg (by decide)]; rfl, h3⟩
  · go_enter Try.func17, Try.ntmps17
    go_wp2_with (go_at_call 40; (refine (H.out _).mono ?_; rintro e w' ⟨v, gs, rfl, h1, h2, h3⟩))
    go_ret2
    exact ⟨by rw [progL, ← HCD.out, if_neg (by decide)]; rfl, h3⟩
set_option maxRecDepth 100000 in
set_option maxHeartbeats 2000000 in
theorem permille_call : Calls Try.prog 18 #[.agg (t.arr sv), s.v] w (RetS2 w (permL t ws : Nat) (codeL t ws : Nat)) := by
  have h := look_box w t sv s ws hs hsz hw hwl hwu
  have hr := fun (W : World) (b : Nat) (v : Value) (gs : List StepV) (hg : gs.map (·.d) = goalsL t ws) (hG : IsG W b v gs) => rest_call W b v gs hG (by rw [hg]; exact sum_goalsL t ws) (by have := len_goalsL t ws; rw [← hg] at this; simp at this; omega)
  obtain ⟨a0, a1, a2, a3, a4, a5, a6, a7, hA⟩ : ∃ a0 a1 a2 a3 a4 a5 a6 a7, t.arr sv = #[a0, a1, a2, a3, a4, a5, a6, a7] := ⟨_, _, _, _, _, _, _, _, rfl⟩
  rw [hA] at h ⊢
  have hcc := codeL_cases t ws
  obtain ⟨c, hc⟩ : ∃ c, c = codeL t ws := ⟨_, rfl⟩
  rw [← hc] at h hcc ⊢
  obtain ⟨r, hre⟩ : ∃ r, r = restN (goalsL t ws) := ⟨_, rfl⟩
  have hrl := restN_le (goalsL t ws)
  rw [← hre] at hrl
  have hmul := fun (W : World) => mul64_call 1000 r (by decide) (by omega) W
  have H := Lib.hid h
  have HR := Lib.hid hr
  have HCD := Lib.hid hc
  have HRE := Lib.hid hre
  clear h hr hs hsz hw hwl hwu hA hc hre
  rcases hcc with rfl | rfl | rfl
  · obtain ⟨m, hm⟩ : ∃ m, m = (goalsL t ws).length := ⟨_, rfl⟩
    have HM := Lib.hid hm
    clear hm
    by_cases h0 : m = 0
    · subst h0
      go_enter Try.func18, Try.ntmps18
      go_wp2_with (go_at_call 40; (refine (H.out _).mono ?_; rintro e w' ⟨v, gs, rfl, h1, h2, h3⟩; obtain ⟨ga, gc, rfl⟩ := goal_form h2; rw [show gs.length = 0 by rw [HM.out, ← h1, List.length_map]]; have HB3 := Lib.hid h3; clear h1 h2 h3))
      go_ret2
      exact ⟨by rw [permL, ← HCD.out, if_pos rfl, if_pos (List.length_eq_zero_iff.1 HM.out.symm)]; rfl, HB3.out⟩
    · have b1 : ((m : Int) == 0) = false := by simp; omega
      have b2 : ¬ (m : Int) = 0 := by omega
      have hor := or_halves r hrl
      obtain ⟨p, hp⟩ : ∃ p, p = 1000 * r / 1152921504606846976 := ⟨_, rfl⟩
      rw [← hp] at hor
      have hp1 : p ≤ 1000 := by omega
      have HP := Lib.hid hp
      clear hp
      by_cases hp9 : (p : Int) ≤ 999
      · have hmn : min p 999 = p := by omega
        have hqi : min (p : Int) 999 = (p : Int) := by omega
        have HMN := Lib.hid hmn
        clear hmn
        go_enter Try.func18, Try.ntmps18
        go_wp2_with (
          first
          | (go_at_call 40; (refine (H.out _).mono ?_; rintro e w' ⟨v, gs, rfl, h1, h2, h3⟩; have hq := HR.out w' _ v gs h1 h2; rw [h1, ← HRE.out] at hq; obtain ⟨ga, gc, rfl⟩ := goal_form h2; have hgl : gs.length = m := (by rw [HM.out, ← h1, List.length_map]); rw [hgl] at hq ⊢; have HQ := Lib.hid hq; have HB3 := Lib.hid h3; clear h1 h2 h3 hq hgl))
          | (go_at_call 42; (refine HQ.out.mono ?_; rintro e w'' ⟨rfl, hB2⟩))
          | (go_at_call 43; (refine (hmul _).mono ?_; rintro e w3 ⟨rfl, rfl⟩)))
        go_ret2
        exact ⟨by rw [permL, ← HCD.out, if_pos rfl, if_neg (fun e => h0 (by rw [HM.out, e]; rfl)), ← HRE.out, ← HP.out, HMN.out]; rfl, HB3.out.trans (hB2.mono HB3.out.size)⟩
      · have hmn : min p 999 = 999 := by omega
        have hqi : min (p : Int) 999 = 999 := by omega
        have HMN := Lib.hid hmn
        clear hmn
        go_enter Try.func18, Try.ntmps18
        go_wp2_with (
          first
          | (go_at_call 40; (refine (H.out _).mono ?_; rintro e w' ⟨v, gs, rfl, h1, h2, h3⟩; have hq := HR.out w' _ v gs h1 h2; rw [h1, ← HRE.out] at hq; obtain ⟨ga, gc, rfl⟩ := goal_form h2; have hgl : gs.length = m := (by rw [HM.out, ← h1, List.length_map]); rw [hgl] at hq ⊢; have HQ := Lib.hid hq; have HB3 := Lib.hid h3; clear h1 h2 h3 hq hgl))
          | (go_at_call 42; (refine HQ.out.mono ?_; rintro e w'' ⟨rfl, hB2⟩))
          | (go_at_call 43; (refine (hmul _).mono ?_; rintro e w3 ⟨rfl, rfl⟩)))
        go_ret2
        exact ⟨by rw [permL, ← HCD.out, if_pos rfl, if_neg (fun e => h0 (by rw [HM.out, e]; rfl)), ← HRE.out, ← HP.out, HMN.out]; rfl, HB3.out.trans (hB2.mono HB3.out.size)⟩
  · go_enter Try.func18, Try.ntmps18
    go_wp2_with (go_at_call 40; (refine (H.out _).mono ?_; rintro e w' ⟨v, gs, rfl, h1, h2, h3⟩))
    go_ret2
    exact ⟨by rw [permL, ← HCD.out, if_neg (by decide)]; rfl, h3⟩
  · go_enter Try.func18, Try.ntmps18
    go_wp2_with (go_at_call 40; (refine (H.out _).mono ?_; rintro e w' ⟨v, gs, rfl, h1, h2, h3⟩))
    go_ret2
    exact ⟨by rw [permL, ← HCD.out, if_neg (by decide)]; rfl, h3⟩
end
end Go.Proofs.Ytfebcpmbkljaoaa
