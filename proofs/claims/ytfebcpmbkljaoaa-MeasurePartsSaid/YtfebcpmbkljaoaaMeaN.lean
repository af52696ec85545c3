/- The walks of Goals, Steps, and of what makes holes and steps. -/
import Derived.Test.YtfebcpmbkljaoaaMeaM
import Derived.Test.YtfebcpmbkljaoaaMeaL
namespace Go.Proofs.Ytfebcpmbkljaoaa
open Go.RowKit Go.HR
set_option linter.unusedVariables false
set_option linter.unusedSimpArgs false
set_option linter.unusedSectionVars false
/-- The number of the error. -/
def codeL (t : PT) (ws : List (List Int)) : Nat := if measT t then (if ∀ u ∈ ws, ∃ d ∈ stepsT [] whole t, plD d = u then 0 else 6) else 2
def goalsL (t : PT) (ws : List (List Int)) : List StepD := if codeL t ws = 0 then (goalsT (badD ws) [] whole t).1 else []
def countL (t : PT) (ws : List (List Int)) : Nat := if codeL t ws = 0 then (goalsT (badD ws) [] whole t).2 else 0
def RetL (w : World) (t : PT) (ws : List (List Int)) (e : Ending) (w' : World) : Prop :=
  ∃ v gs, e = .returned (.tuple #[v, .int .i64 (countL t ws : Nat), .int .i64 (codeL t ws : Nat)]) ∧ gs.map (·.d) = goalsL t ws ∧ IsG w' w.heap.size v gs ∧ Below w.heap.size w w'
theorem IsG.nil (W : World) (b : Nat) : IsG W b (.slice none 0 0) [] := ⟨World.ownsRow_nil _ _ _ _, fun x hx => by cases hx⟩
theorem look_call (w : World) (t : PT) (sv s : SL) (ws : List (List Int)) (hs : IsPs w.heap.size w sv t.subs) (hsz : sizeT t ≤ 10000) (hw : IsW w s ws) (hwl : ws.length ≤ 20000) (hwu : ∀ u ∈ ws, u.length ≤ 20000) : Calls Try.prog 40 #[.agg (t.arr sv), s.v] w (RetL w t ws) := by
  cases hm : measT t with
  | false =>
    refine (look_arg w t sv s ws hs hsz hm).mono fun e w' h => ?_
    have hc : codeL t ws = 2 := by simp [codeL, hm]
    cases h with
    | arg _ he hB => exact ⟨_, [], by rw [countL, hc]; exact he, by simp [goalsL, hc], IsG.nil _ _, hB⟩
    | miss h1 => rw [hm] at h1; cases h1
    | ok h1 => rw [hm] at h1; cases h1
  | true =>
    refine (look_ok w t sv s ws hs hm hw hwl hwu).mono fun e w' h => ?_
    cases h with
    | arg h1 => rw [hm] at h1; cases h1
    | miss _ u hu hn he hB =>
      have hc : codeL t ws = 6 := by
        rw [codeL, if_pos hm, if_neg]
        intro h; obtain ⟨d, hd, e⟩ := h u hu; exact hn d hd e
      exact ⟨_, [], by rw [countL, hc]; exact he, by simp [goalsL, hc], IsG.nil _ _, hB⟩
    | ok _ ha gs v hg hG he hB =>
      have hc : codeL t ws = 0 := by rw [codeL, if_pos hm, if_pos ha]
      rw [scan_all] at hg he
      exact ⟨v, gs, by rw [countL, if_pos hc, hc]; exact he, by rw [goalsL, if_pos hc]; exact hg, hG, hB⟩
section
variable (w : World) (t : PT) (sv s : SL) (ws : List (List Int)) (hs : IsPs w.heap.size w sv t.subs) (hsz : sizeT t ≤ 10000) (hw : IsW w s ws) (hwl : ws.length ≤ 20000) (hwu : ∀ u ∈ ws, u.length ≤ 20000)
def RetG (w : World) (t : PT) (ws : List (List Int)) (e : Ending) (w' : World) : Prop :=
  ∃ v gs, e = .returned (.tuple #[v, .int .i64 (codeL t ws : Nat)]) ∧ gs.map (·.d) = goalsL t ws ∧ IsG w' w.heap.size v gs ∧ Below w.heap.size w w'
include hs hsz hw hwl hwu
theorem look_box (o : Obj) : Calls Try.prog 40 #[.agg (t.arr sv), s.v] (w.alloc o) fun e w' => ∃ v gs, e = .returned (.tuple #[v, .int .i64 (countL t ws : Nat), .int .i64 (codeL t ws : Nat)]) ∧ gs.map (·.d) = goalsL t ws ∧ IsG w' w.heap.size v gs ∧ Below w.heap.size w w' := by
  have hb := (Below.refl _ w).alloc (Nat.le_refl _) o
  refine (look_call (w.alloc o) t sv s ws (hs.up hb) hsz (hw.below hb) hwl hwu).mono ?_
  rintro e w' ⟨v, gs, he, hg, hG, hB⟩
  exact ⟨v, gs, he, hg, ⟨row_mono hG.1 hb.size, hG.2⟩, hb.trans (hB.mono hb.size)⟩
set_option maxRecDepth 100000 in
set_option maxHeartbeats 2000000 in
theorem goals_call : Calls Try.prog 11 #[.agg (t.arr sv), s.v] w (RetG w t ws) := by
  have h := look_box w t sv s ws hs hsz hw hwl hwu
  obtain ⟨a0, a1, a2, a3, a4, a5, a6, a7, hA⟩ : ∃ a0 a1 a2 a3 a4 a5 a6 a7, t.arr sv = #[a0, a1, a2, a3, a4, a5, a6, a7] := ⟨_, _, _, _, _, _, _, _, rfl⟩
  rw [hA] at h ⊢
  have H := Lib.hid h
  clear h hs hsz hw hwl hwu hA
  go_enter Try.func11, Try.ntmps11
  go_wp2_with (go_at_call 40; (refine (H.out _).mono ?_; rintro e w' ⟨v, gs, rfl, h1, h2, h3⟩))
  go_ret2
  exact ⟨v, gs, rfl, h1, h2, h3⟩
def RetS2 (w : World) (a c : Int) (e : Ending) (w' : World) : Prop := e = .returned (.tuple #[.int .i64 a, .int .i64 c]) ∧ Below w.heap.size w w'
set_option maxRecDepth 100000 in
set_option maxHeartbeats 2000000 in
theorem stepsn_call : Calls Try.prog 16 #[.agg (t.arr sv), s.v] w (RetS2 w (countL t ws : Nat) (codeL t ws : Nat)) := by
  have h := look_box w t sv s ws hs hsz hw hwl hwu
  obtain ⟨a0, a1, a2, a3, a4, a5, a6, a7, hA⟩ : ∃ a0 a1 a2 a3 a4 a5 a6 a7, t.arr sv = #[a0, a1, a2, a3, a4, a5, a6, a7] := ⟨_, _, _, _, _, _, _, _, rfl⟩
  rw [hA] at h ⊢
  have H := Lib.hid h
  clear h hs hsz hw hwl hwu hA
  go_enter Try.func16, Try.ntmps16
  go_wp2_with (go_at_call 40; (refine (H.out _).mono ?_; rintro e w' ⟨v, gs, rfl, h1, h2, h3⟩))
  go_ret2
  exact ⟨rfl, h3⟩
end
end Go.Proofs.Ytfebcpmbkljaoaa
