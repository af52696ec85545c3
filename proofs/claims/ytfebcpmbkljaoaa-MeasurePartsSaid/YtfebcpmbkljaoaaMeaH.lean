/- The walks of within and of the search among the steps. -/
import Derived.Test.YtfebcpmbkljaoaaMeaG
namespace Go.Proofs.Ytfebcpmbkljaoaa
open Go.RowKit Go.HR
set_option linter.unusedVariables false
set_option linter.unusedSimpArgs false
set_option linter.unusedSectionVars false
theorem ordI_zero : ∀ (xs ys : List Int), ordI xs ys = 0 ↔ xs = ys
  | [], [] => by simp [ordI]
  | [], _ :: _ => by simp [ordI]
  | _ :: _, [] => by simp [ordI]
  | x :: xs, y :: ys => by
    simp only [ordI, List.cons.injEq]
    split
    · constructor
      · intro h; omega
      · rintro ⟨h, _⟩; omega
    · split
      · constructor
        · intro h; omega
        · rintro ⟨h, _⟩; omega
      · rw [ordI_zero xs ys]
        constructor
        · intro h; exact ⟨by omega, h⟩
        · exact fun h => h.2
/-- Is a place that of a step, or one of a part of it? -/
def inI (p o : List Int) : Bool := decide (o.length ≤ p.length ∧ ordI (p.take o.length) o = 0)
theorem inI_iff (p o : List Int) : inI p o = true ↔ o <+: p := by
  simp only [inI, decide_eq_true_eq, ordI_zero]
  constructor
  · rintro ⟨h, e⟩; rw [List.prefix_iff_eq_take]; exact e.symm
  · intro h; exact ⟨h.length_le, (List.prefix_iff_eq_take.1 h).symm⟩
theorem IsI.take {W : World} {a : Option Addr} {n c m : Nat} {xs : List Int} (h : IsI W ⟨a, n, c⟩ xs) (hm : m ≤ n) : IsI W ⟨a, m, c⟩ (xs.take m) := by
  obtain ⟨h1, h2, h3⟩ := h
  simp only at h1 h2 h3
  refine ⟨by simp; omega, Nat.le_trans hm h2, ?_⟩
  rcases h3 with rfl | ⟨g, o, ha, hc⟩
  · left; simp
  · right
    exact ⟨g, o, ha, fun j x hx => hc j x (by rw [List.getElem?_take] at hx; split at hx; exact hx; cases hx)⟩
theorem int_beq0 (r : Int) : (r == 0) = decide (r = 0) := by by_cases h : r = 0 <;> simp [h]
def RetD (w : World) (v : Value) (e : Ending) (w' : World) : Prop := e = .returned v ∧ ∃ d, w' = w.drewN d
set_option maxRecDepth 100000 in
set_option maxHeartbeats 4000000 in
theorem within_call (w : World) (s t : SL) (xs ys : List Int) (hs : IsI w s xs) (ht : IsI w t ys) (hl : xs.length ≤ 20000) (hl2 : ys.length ≤ 20000) : Calls Try.prog 59 #[s.v, t.v] w (RetD w (.bool (inI xs ys))) := by
  obtain ⟨a, n, c⟩ := s
  obtain ⟨b, m, e⟩ := t
  have hn : n = xs.length := hs.1
  have hm : m = ys.length := ht.1
  have hc : n ≤ c := hs.2.1
  simp only [SL.v]
  by_cases h1 : m ≤ n
  · have ho := order_call w ⟨a, m, c⟩ ⟨b, m, e⟩ _ _ (hs.take h1) ht (by simp; omega) hl2
    have hv : inI xs ys = decide (ordI (xs.take m) ys = 0) := by simp only [inI, hm]; congr 1; simp; omega
    rw [hv]
    have HO := Lib.hid ho
    have hnil : a = none → n = 0 := fun e => by
      rcases hs.2.2 with h | ⟨g, o, h, _⟩
      · rw [hn, h]; rfl
      · simp only at h; rw [e] at h; cases h
    clear ho hs ht hv
    have b1 : (m : Int) ≤ (n : Int) := by omega
    have b2 : (0 : Int) ≤ (m : Int) := by omega
    have b3 : (m : Int) ≤ (c : Int) := by omega
    have b4 : m ≤ c := by omega
    obtain ⟨r, hr⟩ : ∃ r, r = ordI (xs.take m) ys := ⟨_, rfl⟩
    rw [← hr] at HO ⊢
    clear hr hn hm
    cases a with
    | none =>
      have h0 := hnil rfl
      subst h0
      have hm0 : m = 0 := by omega
      subst hm0
      go_enter Try.func59, Try.ntmps59
      go_wp2_with (go_at_call 58; (refine HO.out.mono ?_; rintro e w' ⟨rfl, d, rfl⟩))
      go_ret
      exact ⟨by rw [← int_beq0]; rfl, d, rfl⟩
    | some ad =>
      go_enter Try.func59, Try.ntmps59
      go_wp2_with (go_at_call 58; (refine HO.out.mono ?_; rintro e w' ⟨rfl, d, rfl⟩))
      go_ret
      exact ⟨by rw [← int_beq0]; rfl, d, rfl⟩
  · have hv : inI xs ys = false := by
      simp only [inI, decide_eq_false_iff_not]; intro h; omega
    rw [hv]
    have b1 : ¬ ((m : Int) ≤ (n : Int)) := by omega
    go_enter Try.func59, Try.ntmps59
    go_wp2_with (fail)
    go_ret
    exact ⟨rfl, 0, rfl⟩
end Go.Proofs.Ytfebcpmbkljaoaa
