/- The walks of HasPrefix and Meta. -/
import Derived.Test.YtflmllablfjfeaaDoorNmd
namespace Go.Proofs.YtflmllablfjfeaaDoor
open Go.RowKit
set_option linter.unusedVariables false
set_option linter.unusedSimpArgs false
set_option linter.unusedSectionVars false
def prefB (p s : ByteArray) : Bool := decide (p.size ≤ s.size) && decide (bys (s.extract 0 p.size) = bys p)
theorem bys_inj {a b : ByteArray} : bys a = bys b ↔ a = b := by
  constructor
  · intro h
    rw [bys_eq.1 h]
    exact bys_eq.1 rfl |>.symm ▸ rfl
  · rintro rfl; rfl
set_option maxRecDepth 100000 in
set_option maxHeartbeats 1000000 in
theorem pref50 (w : World) (s p : ByteArray) (hs : s.size ≤ maxLen) (hp : p.size ≤ maxLen) : Calls Tryd.prog 95 #[.string s, .string p] w (RetC w (prefB p s)) := by
  unfold maxLen at hs hp
  by_cases h1 : p.size ≤ s.size
  · have d1 : decide (p.size ≤ s.size) = true := decide_eq_true h1
    by_cases h2 : s.extract 0 p.size = p
    · have hr : prefB p s = true := by simp [prefB, h1, h2]
      have e : ((s.extract 0 p.size).toList == p.toList) = true := by rw [h2]; simp
      have HR := Lib.hid hr
      clear h2 hr
      go_enter Tryd.func95, Tryd.ntmps95
      go_wp2
      go_ret
      exact ⟨by rw [HR.out]; rfl, rfl⟩
    · have hr : prefB p s = false := by simp [prefB, h1, bys_inj, h2]
      have e := bytes_ne h2
      have HR := Lib.hid hr
      clear h2 hr
      go_enter Tryd.func95, Tryd.ntmps95
      go_wp2
      go_ret
      exact ⟨by rw [HR.out]; rfl, rfl⟩
  · have d1 : decide (p.size ≤ s.size) = false := decide_eq_false h1
    have hr : prefB p s = false := by simp [prefB, h1]
    have HR := Lib.hid hr
    clear hr
    go_enter Tryd.func95, Tryd.ntmps95
    go_wp2
    go_ret
    exact ⟨by rw [HR.out]; rfl, rfl⟩
set_option maxRecDepth 100000 in
theorem hasPrefix_any (w : World) (s p : ByteArray) (hs : s.size ≤ maxLen) (hp : p.size ≤ maxLen) : Calls Tryd.prog 93 #[.string s, .string p] w (RetC w (prefB p s)) := by
  go_enter Tryd.func93, Tryd.ntmps93
  go_wp2_with (go_at_call 95; (refine (pref50 w s p hs hp).mono ?_; rintro e w' ⟨rfl, rfl⟩))
  go_ret
  exact ⟨rfl, rfl⟩
def fmB (s : ByteArray) : Bool := decide (s.size ≤ 16) && prefB ⟨#[63]⟩ s && checkB capB alnumB (s.extract 1 s.size)
set_option maxRecDepth 100000 in
set_option maxHeartbeats 1000000 in
theorem formMeta_any (w : World) (s : ByteArray) (hs : s.size ≤ maxLen) : Calls Tryd.prog 89 #[.string s] w (RetW w (fmB s)) := by
  have hpf := hasPrefix_any w s ⟨#[63]⟩ hs (by decide)
  have hx : (s.extract 1 s.size).size ≤ maxLen := by rw [ByteArray.size_extract]; omega
  have hck := predicate_any w (s.extract 1 s.size) hx
  have hs' := hs
  unfold maxLen at hs'
  by_cases h1 : s.size ≤ 16
  · have d1 : decide (s.size ≤ 16) = true := decide_eq_true h1
    cases h2 : prefB ⟨#[63]⟩ s with
    | true =>
      have h3 : 1 ≤ s.size := by
        have := h2
        simp only [prefB, Bool.and_eq_true, decide_eq_true_eq] at this
        exact this.1
      have hr : fmB s = checkB capB alnumB (s.extract 1 s.size) := by simp [fmB, h1, h2]
      rw [hr]
      rw [h2] at hpf
      have HPF := Lib.hid hpf
      have HCK := Lib.hid hck
      clear hr h2 hpf hck hx
      go_enter Tryd.func89, Tryd.ntmps89
      go_wp2_with (first
        | (go_at_call 93; (refine HPF.out.mono ?_; rintro e w' ⟨rfl, rfl⟩))
        | (go_at_call 43; (refine HCK.out.mono ?_; rintro e w' ⟨rfl, hB⟩)))
      go_ret
      exact ⟨rfl, hB⟩
    | false =>
      have hr : fmB s = false := by simp [fmB, h2]
      rw [hr]
      rw [h2] at hpf
      have HPF := Lib.hid hpf
      clear hr h2 hpf hck hx
      go_enter Tryd.func89, Tryd.ntmps89
      go_wp2_with (go_at_call 93; (refine HPF.out.mono ?_; rintro e w' ⟨rfl, rfl⟩))
      go_ret
      exact ⟨rfl, Below.refl _ _⟩
  · have d1 : decide (s.size ≤ 16) = false := decide_eq_false h1
    have hr : fmB s = false := by simp [fmB, h1]
    rw [hr]
    clear hr hpf hck hx
    go_enter Tryd.func89, Tryd.ntmps89
    go_wp2
    go_ret
    exact ⟨rfl, Below.refl _ _⟩
def tmB (s : ByteArray) : Bool := decide (s.size ≤ 16) && prefB ⟨#[63]⟩ s && checkB funB alnumB (s.extract 1 s.size)
set_option maxRecDepth 100000 in
set_option maxHeartbeats 1000000 in
theorem termMeta_any (w : World) (s : ByteArray) (hs : s.size ≤ maxLen) : Calls Tryd.prog 90 #[.string s] w (RetW w (tmB s)) := by
  have hpf := hasPrefix_any w s ⟨#[63]⟩ hs (by decide)
  have hx : (s.extract 1 s.size).size ≤ maxLen := by rw [ByteArray.size_extract]; omega
  have hck := function_any w (s.extract 1 s.size) hx
  have hs' := hs
  unfold maxLen at hs'
  by_cases h1 : s.size ≤ 16
  · have d1 : decide (s.size ≤ 16) = true := decide_eq_true h1
    cases h2 : prefB ⟨#[63]⟩ s with
    | true =>
      have h3 : 1 ≤ s.size := by
        have := h2
        simp only [prefB, Bool.and_eq_true, decide_eq_true_eq] at this
        exact this.1
      have hr : tmB s = checkB funB alnumB (s.extract 1 s.size) := by simp [tmB, h1, h2]
      rw [hr]
      rw [h2] at hpf
      have HPF := Lib.hid hpf
      have HCK := Lib.hid hck
      clear hr h2 hpf hck hx
      go_enter Tryd.func90, Tryd.ntmps90
      go_wp2_with (first
        | (go_at_call 93; (refine HPF.out.mono ?_; rintro e w' ⟨rfl, rfl⟩))
        | (go_at_call 94; (refine HCK.out.mono ?_; rintro e w' ⟨rfl, hB⟩)))
      go_ret
      exact ⟨rfl, hB⟩
    | false =>
      have hr : tmB s = false := by simp [tmB, h2]
      rw [hr]
      rw [h2] at hpf
      have HPF := Lib.hid hpf
      clear hr h2 hpf hck hx
      go_enter Tryd.func90, Tryd.ntmps90
      go_wp2_with (go_at_call 93; (refine HPF.out.mono ?_; rintro e w' ⟨rfl, rfl⟩))
      go_ret
      exact ⟨rfl, Below.refl _ _⟩
  · have d1 : decide (s.size ≤ 16) = false := decide_eq_false h1
    have hr : tmB s = false := by simp [tmB, h1]
    rw [hr]
    clear hr hpf hck hx
    go_enter Tryd.func90, Tryd.ntmps90
    go_wp2
    go_ret
    exact ⟨rfl, Below.refl _ _⟩
def metaB (s : ByteArray) : Bool := fmB s || tmB s
end Go.Proofs.YtflmllablfjfeaaDoor
