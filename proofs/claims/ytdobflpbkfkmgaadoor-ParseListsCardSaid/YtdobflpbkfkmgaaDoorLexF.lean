/- The walks of the scanner's methods behind and run. -/
import Derived.Test.YtdobflpbkfkmgaaDoorLexE
namespace Go.Proofs.YtdobflpbkfkmgaaDoor
open Go.RowKit
set_option linter.unusedVariables false
set_option linter.unusedSimpArgs false
set_option linter.unusedSectionVars false
/-- Where the letters and digits from i on end. -/
def spanE (s : ByteArray) (i : Nat) : Nat := if i < s.size ∧ alnumB (bt s i) = true then spanE s (i + 1) else i
termination_by s.size - i
theorem spanE_yes {s : ByteArray} {i : Nat} (h : i < s.size) (ha : alnumB (bt s i) = true) : spanE s i = spanE s (i + 1) := by
  rw [spanE, if_pos ⟨h, ha⟩]
theorem spanE_no {s : ByteArray} {i : Nat} (h : ¬ (i < s.size ∧ alnumB (bt s i) = true)) : spanE s i = i := by
  rw [spanE, if_neg h]
/-- The scanner at block b: its place, its text. -/
structure Scan (w : World) (b at_ : Nat) (s : ByteArray) : Prop where
  h : w.heap[b]? = some (.cells #[.int .i64 at_, .string s] 76 (0, 0))
theorem Scan.c0 {w : World} {b at_ : Nat} {s : ByteArray} (h : Scan w b at_ s) : w.cell? ⟨b, 0, none⟩ = some (.int .i64 at_) := blk_cell h.h 0
theorem Scan.c1 {w : World} {b at_ : Nat} {s : ByteArray} (h : Scan w b at_ s) : w.cell? ⟨b, 1, none⟩ = some (.string s) := blk_cell h.h 1
theorem Scan.below {w w' : World} {b at_ : Nat} {s : ByteArray} (h : Scan w b at_ s) (hb : Below w.heap.size w w') : Scan w' b at_ s :=
  ⟨(hb.block b (Array.getElem?_eq_some_iff.1 h.h).1).trans h.h⟩
/-- A string, and a world that only drew. -/
def RetT (w : World) (x : ByteArray) (e : Ending) (w' : World) : Prop := e = .returned (.string x) ∧ ∃ d, w' = w.drewN d
set_option maxRecDepth 100000 in
set_option maxHeartbeats 2000000 in
theorem behind_any (w : World) (b at_ : Nat) (s : ByteArray) (h : Scan w b at_ s) (hs : s.size ≤ maxLen) (ha : at_ + 1 ≤ s.size) :
    Calls Tryd.prog 108 #[.pointer (some ⟨b, 0, none⟩), .int .i64 1] w (RetT w (s.extract at_ (spanE s (at_ + 1)))) := by
  unfold maxLen at hs
  have c0 := h.c0
  have c1 := h.c1
  go_enter Tryd.func108, Tryd.ntmps108
  go_wp2_with (fail)
  go_loop [5] (fun i => ∃ k : Nat, at_ + 1 ≤ k ∧ k ≤ s.size ∧ i = .int .i64 k ∧ spanE s (at_ + 1) = spanE s k) (fun i => s.size - (intOf i).toNat)
  case atStart => exact ⟨at_ + 1, by omega, by omega, by go_num, rfl⟩
  case round =>
    obtain ⟨k, hk1, hk, rfl, he⟩ := hrel
    have HE := Lib.hid he
    clear he
    by_cases hks : k < s.size
    · have b0 : (0 : Int) ≤ (k : Int) := by omega
      have b1 : (k : Int) < (s.size : Int) := by omega
      have d1 : decide (k < s.size) = true := decide_eq_true hks
      have hq := alnum_any w ((s[k]'hks).toNat) (by rw [bt_eq]; exact bt_le s k)
      cases hal : alnumB (bt s k) with
      | true =>
        rw [bt_eq hks, hal] at hq
        have HQ : Hid (Calls Tryd.prog 112 #[.int .u8 ((s[k]'hks).toNat : Nat)] w (RetC w true)) := Lib.hid (by rw [bt_eq hks]; exact hq)
        have hsp := spanE_yes hks hal
        have HSP := Lib.hid hsp
        clear hq hal hsp
        go_wp2_with (go_at_call 112; (refine HQ.out.mono ?_; rintro e w' ⟨rfl, rfl⟩))
        go_round
        case rel => exact ⟨k + 1, by omega, by omega, by go_num, HE.out.trans HSP.out⟩
        case measure => simp [intOf]; omega
      | false =>
        rw [bt_eq hks, hal] at hq
        have HQ : Hid (Calls Tryd.prog 112 #[.int .u8 ((s[k]'hks).toNat : Nat)] w (RetC w false)) := Lib.hid (by rw [bt_eq hks]; exact hq)
        have hsp : spanE s k = k := spanE_no (fun hh => by rw [hal] at hh; cases hh.2)
        have HSP := Lib.hid hsp
        clear hq hal hsp
        go_wp2_with (go_at_call 112; (refine HQ.out.mono ?_; rintro e w' ⟨rfl, rfl⟩))
        go_quiet (fail)
        go_wp2_with (fail)
        go_ret
        exact ⟨by rw [HE.out, HSP.out]; rfl, _, rfl⟩
    · have d1 : decide (k < s.size) = false := decide_eq_false hks
      have hsp : spanE s k = k := spanE_no (fun hh => hks hh.1)
      have HSP := Lib.hid hsp
      clear hsp
      go_wp2_with (fail)
      go_quiet (fail)
      go_wp2_with (fail)
      go_ret
      exact ⟨by rw [HE.out, HSP.out]; rfl, _, rfl⟩
end Go.Proofs.YtdobflpbkfkmgaaDoor
