/- The walk of the scanner's method sign. -/
import Derived.Test.YtdobflpbkfkmgaaDoorLexG
import Derived.Deep.CutBlock
import Derived.Deep.CutRange
namespace Go.Proofs.YtdobflpbkfkmgaaDoor
open Go.RowKit
set_option linter.unusedVariables false
set_option linter.unusedSimpArgs false
set_option linter.unusedSectionVars false
/-- The signs, in the order in which they are tried. -/
def signsB : List ByteArray := [⟨#[60, 45, 62]⟩, ⟨#[45, 62]⟩, ⟨#[91, 93]⟩, ⟨#[60, 62]⟩, ⟨#[40]⟩, ⟨#[41]⟩, ⟨#[44]⟩, ⟨#[126]⟩, ⟨#[38]⟩, ⟨#[124]⟩, ⟨#[47]⟩, ⟨#[91]⟩, ⟨#[93]⟩]
/-- The variable lex.signs holds them. -/
def Signs (w : World) : Prop := (∀ (i : Nat) (g : ByteArray), signsB[i]? = some g → w.cell? ⟨2, i, none⟩ = some (.string g)) ∧ 2 < w.heap.size
theorem Signs.below {w w' : World} (h : Signs w) (hb : Below w.heap.size w w') : Signs w' :=
  ⟨fun i g hg => (hb.cell (p := ⟨2, i, none⟩) h.2).trans (h.1 i g hg), Nat.lt_of_lt_of_le h.2 hb.size⟩
def signR (t : ByteArray) : KT := match signsB.find? (fun g => prefB g t) with
  | some g => ⟨4, g, 0⟩
  | none => ⟨0, ⟨#[]⟩, 40⟩
theorem signR_yes {t : ByteArray} {k : Nat} {g : ByteArray} (hg : signsB[k]? = some g) (hp : prefB g t = true) (hall : ∀ (j : Nat) (x : ByteArray), j < k → signsB[j]? = some x → prefB x t = false) : signR t = ⟨4, g, 0⟩ := by
  have : signsB.find? (fun g => prefB g t) = some g := by
    rw [List.find?_eq_some_iff_getElem]
    obtain ⟨hl, he⟩ := List.getElem?_eq_some_iff.1 hg
    refine ⟨hp, k, hl, he, fun j hj => ?_⟩
    have := hall j signsB[j] hj (List.getElem?_eq_getElem (by omega))
    simp [this]
  simp [signR, this]
theorem signR_no {t : ByteArray} (hall : ∀ (j : Nat) (x : ByteArray), j < 13 → signsB[j]? = some x → prefB x t = false) : signR t = ⟨0, ⟨#[]⟩, 40⟩ := by
  have : signsB.find? (fun g => prefB g t) = none := by
    rw [List.find?_eq_none]
    intro x hx
    obtain ⟨j, hj⟩ := List.mem_iff_getElem?.1 hx
    have hl := (List.getElem?_eq_some_iff.1 hj).1
    have := hall j x hl hj
    simp [this]
  simp [signR, this]
def signsV : Array Value := #[.string ⟨#[60, 45, 62]⟩, .string ⟨#[45, 62]⟩, .string ⟨#[91, 93]⟩, .string ⟨#[60, 62]⟩, .string ⟨#[40]⟩, .string ⟨#[41]⟩, .string ⟨#[44]⟩, .string ⟨#[126]⟩, .string ⟨#[38]⟩, .string ⟨#[124]⟩, .string ⟨#[47]⟩, .string ⟨#[91]⟩, .string ⟨#[93]⟩]
set_option maxRecDepth 100000 in
theorem sign_index (k : Nat) (g : ByteArray) (hg : signsB[k]? = some g) (w : World) : (Instr.index 148 (.agg signsV) (.int .i64 k)).run Tryd.prog w = .ok (.string g) w := by
  have hl : k < 13 := (List.getElem?_eq_some_iff.1 hg).1
  have : k = 0 ∨ k = 1 ∨ k = 2 ∨ k = 3 ∨ k = 4 ∨ k = 5 ∨ k = 6 ∨ k = 7 ∨ k = 8 ∨ k = 9 ∨ k = 10 ∨ k = 11 ∨ k = 12 := by omega
  rcases this with rfl | rfl | rfl | rfl | rfl | rfl | rfl | rfl | rfl | rfl | rfl | rfl | rfl <;> (simp only [signsB] at hg; cases hg; exact rfl)
set_option maxRecDepth 100000 in
set_option maxHeartbeats 8000000 in
theorem sign_any (w : World) (b at_ : Nat) (s : ByteArray) (h : Scan w b at_ s) (hs : s.size ≤ maxLen) (ha : at_ ≤ s.size) (hG : Signs w) :
    Calls Tryd.prog 98 #[.pointer (some ⟨b, 0, none⟩)] w (RetK w (signR (s.extract at_ s.size))) := by
  have HH := Lib.hid h
  have g0 := hG.1 0 _ rfl
  have g1 := hG.1 1 _ rfl
  have g2 := hG.1 2 _ rfl
  have g3 := hG.1 3 _ rfl
  have g4 := hG.1 4 _ rfl
  have g5 := hG.1 5 _ rfl
  have g6 := hG.1 6 _ rfl
  have g7 := hG.1 7 _ rfl
  have g8 := hG.1 8 _ rfl
  have g9 := hG.1 9 _ rfl
  have g10 := hG.1 10 _ rfl
  have g11 := hG.1 11 _ rfl
  have g12 := hG.1 12 _ rfl
  have hl := extract_le hs at_ s.size
  have hs' := hs
  unfold maxLen at hs'
  obtain ⟨T, hT⟩ : ∃ T, s.extract at_ s.size = T := ⟨_, rfl⟩
  rw [hT] at hl ⊢
  have HL := Lib.hid hl
  clear h hG hs hl
  go_enter Tryd.func98, Tryd.ntmps98
  go_wp2_with (fail)
  clear g0 g1 g2 g3 g4 g5 g6 g7 g8 g9 g10 g11 g12
  go_loopw [8] (fun i wr => ∃ k d : Nat, k ≤ 13 ∧ i = .int .i64 k ∧ wr = w.drewN d ∧ ∀ (j : Nat) (x : ByteArray), j < k → signsB[j]? = some x → prefB x T = false) (fun i _ => 13 - (intOf i).toNat)
  case atStart => exact ⟨0, 0, by omega, rfl, rfl, fun j x hj => by omega⟩
  case round =>
    obtain ⟨k, d, hk, rfl, hwr, hall⟩ := hrel
    have c0 : wr.cell? ⟨b, 0, none⟩ = some (.int .i64 at_) := by rw [hwr]; exact HH.out.c0
    have c1 : wr.cell? ⟨b, 1, none⟩ = some (.string s) := by rw [hwr]; exact HH.out.c1
    have HWR := Lib.hid hwr
    have HALL := Lib.hid hall
    have a0 : (0 : Int) ≤ (at_ : Int) := by omega
    have a1 : (at_ : Int) ≤ (s.size : Int) := by omega
    clear hwr hall
    by_cases hk13 : k < 13
    · obtain ⟨g, hg⟩ : ∃ g, signsB[k]? = some g := ⟨_, List.getElem?_eq_getElem (show k < signsB.length from hk13)⟩
      have hgl : g.size ≤ maxLen := by
        have : k = 0 ∨ k = 1 ∨ k = 2 ∨ k = 3 ∨ k = 4 ∨ k = 5 ∨ k = 6 ∨ k = 7 ∨ k = 8 ∨ k = 9 ∨ k = 10 ∨ k = 11 ∨ k = 12 := by omega
        rcases this with rfl | rfl | rfl | rfl | rfl | rfl | rfl | rfl | rfl | rfl | rfl | rfl | rfl <;> (simp only [signsB] at hg; cases hg; decide)
      have hpf := fun w' => hasPrefix_any w' T g HL.out hgl
      have HG := Lib.hid hg
      have hix := sign_index k g hg wr
      unfold signsV at hix
      cases hp : prefB g T with
      | true =>
        rw [hp] at hpf
        have HPF := Lib.hid hpf
        have hr := signR_yes hg hp HALL.out
        have HR := Lib.hid hr
        have b1 : (k : Int) < 13 := by omega
        clear hp hpf hgl hr hg
        go_wp2_with (fail)
        go_quiet ((go_at_call 87; exact Calls.quiet_of_same ((HPF.out _).mono fun _ _ h => ⟨h.1, h.2.symm⟩)))
        go_wp2_with (fail)
        refine bodyPost_ret (v := .tuple #[.int .u8 4, .string g, .int .i64 0]) (by simp [results, Tryd.results98, go_sem]) rfl ⟨by rw [HR.out], ?_⟩
        rw [HWR.out]
        exact below_drewN (drew_below w _) _
      | false =>
        have HP := Lib.hid hp
        rw [hp] at hpf
        have HPF := Lib.hid hpf
        have b1 : (k : Int) < 13 := by omega
        clear hp hpf hgl hg
        go_wp2_with (fail)
        go_quiet ((go_at_call 87; exact Calls.quiet_of_same ((HPF.out _).mono fun _ _ h => ⟨h.1, h.2.symm⟩)))
        go_wp2_with (fail)
        go_roundw
        case rel => exact ⟨k + 1, d + nq, by omega, by go_num, by rw [HWR.out, World.drewN_drewN], fun j x hj hx => by
          by_cases e : j = k
          · subst e
            have := HG.out
            rw [hx] at this; cases this
            exact HP.out
          · exact HALL.out j x (by omega) hx⟩
        case measure => simp [intOf]; omega
    · obtain rfl : k = 13 := by omega
      have hr := signR_no HALL.out
      have HR := Lib.hid hr
      clear hr
      go_wp2_with (fail)
      refine bodyPost_ret (v := .tuple #[.int .u8 0, .string ⟨#[]⟩, .int .i64 40]) (by simp [results, Tryd.results98, go_sem]) rfl ⟨by rw [HR.out], ?_⟩
      rw [HWR.out]
      exact drew_below w d
end Go.Proofs.YtdobflpbkfkmgaaDoor
