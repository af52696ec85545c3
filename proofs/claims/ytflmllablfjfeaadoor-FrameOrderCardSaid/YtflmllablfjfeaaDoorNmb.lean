/- The walks of Word, reserved and HasPrefix. -/
import Derived.Test.YtflmllablfjfeaaDoorNma
import Derived.MapKept
namespace Go.Proofs.YtflmllablfjfeaaDoor
open Go.RowKit
set_option linter.unusedVariables false
set_option linter.unusedSimpArgs false
set_option linter.unusedSectionVars false
theorem bytes_ne {a b : ByteArray} (h : a ≠ b) : (a.toList == b.toList) = false := by
  rw [← beq_toListBytes]
  cases e : (a == b) with
  | false => rfl
  | true => exact absurd ((MapKept.bytes_beq a b).1 e) h
/-- The bytes of a string. -/
def bys (s : ByteArray) : List UInt8 := s.data.toList
theorem bys_eq {s : ByteArray} {l : List UInt8} : bys s = l ↔ s = ⟨l.toArray⟩ := by
  constructor
  · rintro rfl; cases s; simp [bys]
  · rintro rfl; simp [bys]
def wordsD : List (List UInt8) := [[97, 108, 108], [115, 111, 109, 101], [102, 97, 108, 115, 101], [110, 101, 120, 116], [97, 108, 119, 97, 121, 115], [117, 110, 116, 105, 108]]
def wordB (s : ByteArray) : Bool := decide (bys s ∈ wordsD)
set_option maxRecDepth 100000 in
set_option maxHeartbeats 1000000 in
theorem reserved_any (w : World) (s : ByteArray) : Calls Tryd.prog 78 #[.string s] w (RetC w (wordB s)) := by
  by_cases h0 : s = ⟨#[97, 108, 108]⟩
  · subst h0
    rw [show wordB ⟨#[97, 108, 108]⟩ = true by decide +kernel]
    go_enter Tryd.func78, Tryd.ntmps78
    go_wp2
    go_ret
    exact ⟨rfl, rfl⟩
  by_cases h1 : s = ⟨#[115, 111, 109, 101]⟩
  · subst h1
    rw [show wordB ⟨#[115, 111, 109, 101]⟩ = true by decide +kernel]
    go_enter Tryd.func78, Tryd.ntmps78
    go_wp2
    go_ret
    exact ⟨rfl, rfl⟩
  by_cases h2 : s = ⟨#[102, 97, 108, 115, 101]⟩
  · subst h2
    rw [show wordB ⟨#[102, 97, 108, 115, 101]⟩ = true by decide +kernel]
    go_enter Tryd.func78, Tryd.ntmps78
    go_wp2
    go_ret
    exact ⟨rfl, rfl⟩
  by_cases h3 : s = ⟨#[110, 101, 120, 116]⟩
  · subst h3
    rw [show wordB ⟨#[110, 101, 120, 116]⟩ = true by decide +kernel]
    go_enter Tryd.func78, Tryd.ntmps78
    go_wp2
    go_ret
    exact ⟨rfl, rfl⟩
  by_cases h4 : s = ⟨#[97, 108, 119, 97, 121, 115]⟩
  · subst h4
    rw [show wordB ⟨#[97, 108, 119, 97, 121, 115]⟩ = true by decide +kernel]
    go_enter Tryd.func78, Tryd.ntmps78
    go_wp2
    go_ret
    exact ⟨rfl, rfl⟩
  by_cases h5 : s = ⟨#[117, 110, 116, 105, 108]⟩
  · subst h5
    rw [show wordB ⟨#[117, 110, 116, 105, 108]⟩ = true by decide +kernel]
    go_enter Tryd.func78, Tryd.ntmps78
    go_wp2
    go_ret
    exact ⟨rfl, rfl⟩
  have hr : wordB s = false := by simp only [wordB, wordsD, List.mem_cons, bys_eq, h0, h1, h2, h3, h4, h5, List.not_mem_nil, or_self, decide_false]
  rw [hr]
  have n0 := bytes_ne h0
  rw [show (⟨#[97, 108, 108]⟩ : ByteArray).toList = [97, 108, 108] by decide +kernel] at n0
  have n1 := bytes_ne h1
  rw [show (⟨#[115, 111, 109, 101]⟩ : ByteArray).toList = [115, 111, 109, 101] by decide +kernel] at n1
  have n2 := bytes_ne h2
  rw [show (⟨#[102, 97, 108, 115, 101]⟩ : ByteArray).toList = [102, 97, 108, 115, 101] by decide +kernel] at n2
  have n3 := bytes_ne h3
  rw [show (⟨#[110, 101, 120, 116]⟩ : ByteArray).toList = [110, 101, 120, 116] by decide +kernel] at n3
  have n4 := bytes_ne h4
  rw [show (⟨#[97, 108, 119, 97, 121, 115]⟩ : ByteArray).toList = [97, 108, 119, 97, 121, 115] by decide +kernel] at n4
  have n5 := bytes_ne h5
  rw [show (⟨#[117, 110, 116, 105, 108]⟩ : ByteArray).toList = [117, 110, 116, 105, 108] by decide +kernel] at n5
  clear h0 h1 h2 h3 h4 h5 hr
  go_enter Tryd.func78, Tryd.ntmps78
  go_wp2
  go_ret
  exact ⟨rfl, rfl⟩
end Go.Proofs.YtflmllablfjfeaaDoor
