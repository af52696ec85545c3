/- The walk of the law LexWrong. -/
import Derived.Test.YtnihpcamooncjaaDoorLexY
import Derived.IntWalk
namespace Go.Proofs.YtnihpcamooncjaaDoor
open Go.RowKit
set_option linter.unusedVariables false
set_option linter.unusedSimpArgs false
set_option linter.unusedSectionVars false
/-- Lex answers with an error; the place as an integer. -/
def RetBI (w : World) (p k : Int) (e : Ending) (w' : World) : Prop := e = .returned (.tuple #[.slice none 0 0, .int .i64 p, .int .i64 k]) ∧ Below w.heap.size w w'
theorem bysApp (a b : ByteArray) : bys (a ++ b) = bys a ++ bys b := by simp [bys, ByteArray.data_append]
theorem wrong_first {w : World} {s bad : ByteArray} (hs : s.size ≤ 1500) (hb : bad.size ≤ 2) (hG : Signs w) {ts : List Tok} {p : Nat} {e : Int} (hL : LexL 0 (bys s) ts p e) (he : e ≠ 0) :
    Calls Tryd.prog 13 #[.string (s ++ ⟨#[32]⟩ ++ bad ++ ⟨#[32, 80]⟩)] w (RetBI w p e) := by
  have h := lex_both_err hL (b := 32) (by decide) (bys bad ++ [32, 80]) he
  refine (lex_bad w _ ?_ hG (ts := ts) (p := p) (e := e) ?_ he).mono fun _ _ h => h
  · have h1 : (ByteArray.mk #[32]).size = 1 := rfl
    have h2 : (ByteArray.mk #[32, 80]).size = 2 := rfl
    rw [ByteArray.size_append, ByteArray.size_append, ByteArray.size_append]; omega
  · rw [bysApp, bysApp, bysApp, show bys ⟨#[32]⟩ = [32] from rfl, show bys ⟨#[32, 80]⟩ = [32, 80] from rfl, List.append_assoc, List.append_assoc]
    exact h
theorem wrong_then {w : World} {s bad : ByteArray} (hs : s.size ≤ 1500) (hb : bad.size ≤ 2) (hG : Signs w) {ts : List Tok} {p : Nat} {e : Int} (hL : LexL 0 (bys s) ts p e) (he : e = 0) {f : Int} (hf : f ≠ 0) (hbad : ∀ a, LexL a (bys bad ++ [32, 80]) [] a f) :
    Calls Tryd.prog 13 #[.string (s ++ ⟨#[32]⟩ ++ bad ++ ⟨#[32, 80]⟩)] w (RetBI w ((s.size : Int) + 1) f) := by
  have h := lex_both hL (b := 32) (by decide) (bys bad ++ [32, 80]) he (hbad _)
  refine (lex_bad w _ ?_ hG (ts := ts.dropLast ++ []) (p := 0 + (bys s).length + 1) (e := f) ?_ hf).mono fun _ _ h => ⟨h.1.trans ?_, h.2⟩
  · have h1 : (ByteArray.mk #[32]).size = 1 := rfl
    have h2 : (ByteArray.mk #[32, 80]).size = 2 := rfl
    rw [ByteArray.size_append, ByteArray.size_append, ByteArray.size_append]; omega
  · rw [bysApp, bysApp, bysApp, show bys ⟨#[32]⟩ = [32] from rfl, show bys ⟨#[32, 80]⟩ = [32, 80] from rfl, List.append_assoc, List.append_assoc]
    exact h
  · rw [show ((0 + (bys s).length + 1 : Nat) : Int) = (s.size : Int) + 1 by show ((0 + s.size + 1 : Nat) : Int) = _; omega]
theorem bad0 : ∀ a, LexL a (bys ⟨#[55]⟩ ++ [32, 80]) [] a 40 := fun a => by
  have h : (readL 55 [32, 80]).e = 40 := by kernel_rfl
  have := LexL.bad (a := a) (c := 55) (l := [32, 80]) (by decide) (by rw [h]; decide)
  rw [h] at this; exact this
theorem bad1 : ∀ a, LexL a (bys ⟨#[36]⟩ ++ [32, 80]) [] a 40 := fun a => by
  have h : (readL 36 [32, 80]).e = 40 := by kernel_rfl
  have := LexL.bad (a := a) (c := 36) (l := [32, 80]) (by decide) (by rw [h]; decide)
  rw [h] at this; exact this
theorem bad2 : ∀ a, LexL a (bys ⟨#[45]⟩ ++ [32, 80]) [] a 40 := fun a => by
  have h : (readL 45 [32, 80]).e = 40 := by kernel_rfl
  have := LexL.bad (a := a) (c := 45) (l := [32, 80]) (by decide) (by rw [h]; decide)
  rw [h] at this; exact this
theorem bad3 : ∀ a, LexL a (bys ⟨#[120, 121]⟩ ++ [32, 80]) [] a 41 := fun a => by
  have h : (readL 120 [121, 32, 80]).e = 41 := by kernel_rfl
  have := LexL.bad (a := a) (c := 120) (l := [121, 32, 80]) (by decide) (by rw [h]; decide)
  rw [h] at this; exact this
theorem bad4 : ∀ a, LexL a (bys ⟨#[63]⟩ ++ [32, 80]) [] a 41 := fun a => by
  have h : (readL 63 [32, 80]).e = 41 := by kernel_rfl
  have := LexL.bad (a := a) (c := 63) (l := [32, 80]) (by decide) (by rw [h]; decide)
  rw [h] at this; exact this
theorem bad5 : ∀ a, LexL a (bys ⟨#[128]⟩ ++ [32, 80]) [] a 40 := fun a => by
  have h : (readL 128 [32, 80]).e = 40 := by kernel_rfl
  have := LexL.bad (a := a) (c := 128) (l := [32, 80]) (by decide) (by rw [h]; decide)
  rw [h] at this; exact this
set_option maxRecDepth 100000 in
set_option maxHeartbeats 8000000 in
theorem wrong_any (w : World) (s : ByteArray) (n : Nat) (hs : s.size ≤ maxLen) (hn : n ≤ 255) (hG : Signs w) : Calls Tryd.prog 8 #[.string s, .int .u8 n] w (RetW1 w) := by
  have LA := Lib.hid (awake_any w hG)
  have hs' := hs
  unfold maxLen at hs'
  by_cases h3 : s.size ≤ 1500
  · have d3 : ¬ (1500 : Int) < (s.size : Int) := by omega
    have s1 : IntKind.i64.wrap ((s.size : Int) + 1) = (s.size : Int) + 1 := IntWalk.i64_in _ (by omega)
    obtain ⟨ts, p, e, hL⟩ := lex_total _ (bys s) (Nat.le_refl _) 0
    obtain ⟨m, hm⟩ : ∃ m, ts.length = m := ⟨_, rfl⟩
    have hm3 : m ≤ 1501 := by
      have := (lex_places hL).1
      have hbs : (bys s).length = s.size := rfl
      omega
    have hq : (n : Int) % 6 = 0 ∨ (n : Int) % 6 = 1 ∨ (n : Int) % 6 = 2 ∨ (n : Int) % 6 = 3 ∨ (n : Int) % 6 = 4 ∨ (n : Int) % 6 = 5 := by omega
    by_cases he : e = 0
    · rcases hq with hq | hq | hq | hq | hq | hq
      · have L1 := Lib.hid (fun (w' : World) (h : Below w.heap.size w w') => lex_good w' s (by omega) (hG.below h) hL he hm)
        have L2 := Lib.hid (fun (w' : World) (h : Below w.heap.size w w') => wrong_then (bad := ⟨#[55]⟩) h3 (by decide) (hG.below h) hL he (by decide) bad0)
        clear hL hs hG he hm
        go_enter Tryd.func8, Tryd.ntmps8
        go_wp2_with (first
          | (go_at_call 9; (with_reducible refine LA.out.mono ?_); rintro e w1 ⟨rfl, hb1⟩; have B1 := Lib.hid hb1; clear hb1)
          | (go_at_call 13; (with_reducible refine (L1.out _ (B1.out.alloc B1.out.size _)).mono ?_); rintro e w2 ⟨g, c, rfl, hR, hc, hg, hb2⟩; have B2 := Lib.hid (below_of (B1.out.alloc B1.out.size _) hb2); clear hR hc hg hb2)
          | (go_at_call 13; (with_reducible refine (L2.out _ B2.out).mono ?_); rintro e w3 ⟨rfl, hb3⟩))
        go_ret
        exact ⟨rfl, below_of B2.out hb3⟩
      · have L1 := Lib.hid (fun (w' : World) (h : Below w.heap.size w w') => lex_good w' s (by omega) (hG.below h) hL he hm)
        have L2 := Lib.hid (fun (w' : World) (h : Below w.heap.size w w') => wrong_then (bad := ⟨#[36]⟩) h3 (by decide) (hG.below h) hL he (by decide) bad1)
        clear hL hs hG he hm
        go_enter Tryd.func8, Tryd.ntmps8
        go_wp2_with (first
          | (go_at_call 9; (with_reducible refine LA.out.mono ?_); rintro e w1 ⟨rfl, hb1⟩; have B1 := Lib.hid hb1; clear hb1)
          | (go_at_call 13; (with_reducible refine (L1.out _ (B1.out.alloc B1.out.size _)).mono ?_); rintro e w2 ⟨g, c, rfl, hR, hc, hg, hb2⟩; have B2 := Lib.hid (below_of (B1.out.alloc B1.out.size _) hb2); clear hR hc hg hb2)
          | (go_at_call 13; (with_reducible refine (L2.out _ B2.out).mono ?_); rintro e w3 ⟨rfl, hb3⟩))
        go_ret
        exact ⟨rfl, below_of B2.out hb3⟩
      · have L1 := Lib.hid (fun (w' : World) (h : Below w.heap.size w w') => lex_good w' s (by omega) (hG.below h) hL he hm)
        have L2 := Lib.hid (fun (w' : World) (h : Below w.heap.size w w') => wrong_then (bad := ⟨#[45]⟩) h3 (by decide) (hG.below h) hL he (by decide) bad2)
        clear hL hs hG he hm
        go_enter Tryd.func8, Tryd.ntmps8
        go_wp2_with (first
          | (go_at_call 9; (with_reducible refine LA.out.mono ?_); rintro e w1 ⟨rfl, hb1⟩; have B1 := Lib.hid hb1; clear hb1)
          | (go_at_call 13; (with_reducible refine (L1.out _ (B1.out.alloc B1.out.size _)).mono ?_); rintro e w2 ⟨g, c, rfl, hR, hc, hg, hb2⟩; have B2 := Lib.hid (below_of (B1.out.alloc B1.out.size _) hb2); clear hR hc hg hb2)
          | (go_at_call 13; (with_reducible refine (L2.out _ B2.out).mono ?_); rintro e w3 ⟨rfl, hb3⟩))
        go_ret
        exact ⟨rfl, below_of B2.out hb3⟩
      · have L1 := Lib.hid (fun (w' : World) (h : Below w.heap.size w w') => lex_good w' s (by omega) (hG.below h) hL he hm)
        have L2 := Lib.hid (fun (w' : World) (h : Below w.heap.size w w') => wrong_then (bad := ⟨#[120, 121]⟩) h3 (by decide) (hG.below h) hL he (by decide) bad3)
        clear hL hs hG he hm
        go_enter Tryd.func8, Tryd.ntmps8
        go_wp2_with (first
          | (go_at_call 9; (with_reducible refine LA.out.mono ?_); rintro e w1 ⟨rfl, hb1⟩; have B1 := Lib.hid hb1; clear hb1)
          | (go_at_call 13; (with_reducible refine (L1.out _ (B1.out.alloc B1.out.size _)).mono ?_); rintro e w2 ⟨g, c, rfl, hR, hc, hg, hb2⟩; have B2 := Lib.hid (below_of (B1.out.alloc B1.out.size _) hb2); clear hR hc hg hb2)
          | (go_at_call 13; (with_reducible refine (L2.out _ B2.out).mono ?_); rintro e w3 ⟨rfl, hb3⟩))
        go_ret
        exact ⟨rfl, below_of B2.out hb3⟩
      · have L1 := Lib.hid (fun (w' : World) (h : Below w.heap.size w w') => lex_good w' s (by omega) (hG.below h) hL he hm)
        have L2 := Lib.hid (fun (w' : World) (h : Below w.heap.size w w') => wrong_then (bad := ⟨#[63]⟩) h3 (by decide) (hG.below h) hL he (by decide) bad4)
        clear hL hs hG he hm
        go_enter Tryd.func8, Tryd.ntmps8
        go_wp2_with (first
          | (go_at_call 9; (with_reducible refine LA.out.mono ?_); rintro e w1 ⟨rfl, hb1⟩; have B1 := Lib.hid hb1; clear hb1)
          | (go_at_call 13; (with_reducible refine (L1.out _ (B1.out.alloc B1.out.size _)).mono ?_); rintro e w2 ⟨g, c, rfl, hR, hc, hg, hb2⟩; have B2 := Lib.hid (below_of (B1.out.alloc B1.out.size _) hb2); clear hR hc hg hb2)
          | (go_at_call 13; (with_reducible refine (L2.out _ B2.out).mono ?_); rintro e w3 ⟨rfl, hb3⟩))
        go_ret
        exact ⟨rfl, below_of B2.out hb3⟩
      · have L1 := Lib.hid (fun (w' : World) (h : Below w.heap.size w w') => lex_good w' s (by omega) (hG.below h) hL he hm)
        have L2 := Lib.hid (fun (w' : World) (h : Below w.heap.size w w') => wrong_then (bad := ⟨#[128]⟩) h3 (by decide) (hG.below h) hL he (by decide) bad5)
        clear hL hs hG he hm
        go_enter Tryd.func8, Tryd.ntmps8
        go_wp2_with (first
          | (go_at_call 9; (with_reducible refine LA.out.mono ?_); rintro e w1 ⟨rfl, hb1⟩; have B1 := Lib.hid hb1; clear hb1)
          | (go_at_call 13; (with_reducible refine (L1.out _ (B1.out.alloc B1.out.size _)).mono ?_); rintro e w2 ⟨g, c, rfl, hR, hc, hg, hb2⟩; have B2 := Lib.hid (below_of (B1.out.alloc B1.out.size _) hb2); clear hR hc hg hb2)
          | (go_at_call 13; (with_reducible refine (L2.out _ B2.out).mono ?_); rintro e w3 ⟨rfl, hb3⟩))
        go_ret
        exact ⟨rfl, below_of B2.out hb3⟩
    · rcases hq with hq | hq | hq | hq | hq | hq
      · have L1 := Lib.hid (fun (w' : World) (h : Below w.heap.size w w') => lex_bad w' s (by omega) (hG.below h) hL he)
        have L2 := Lib.hid (fun (w' : World) (h : Below w.heap.size w w') => wrong_first (bad := ⟨#[55]⟩) h3 (by decide) (hG.below h) hL he)
        have n1 : (e != 0) = true := by simpa using he
        clear hL hs hG he hm
        go_enter Tryd.func8, Tryd.ntmps8
        go_wp2_with (first
          | (go_at_call 9; (with_reducible refine LA.out.mono ?_); rintro e w1 ⟨rfl, hb1⟩; have B1 := Lib.hid hb1; clear hb1)
          | (go_at_call 13; (with_reducible refine (L1.out _ (B1.out.alloc B1.out.size _)).mono ?_); rintro e w2 ⟨rfl, hb2⟩; have B2 := Lib.hid (below_of (B1.out.alloc B1.out.size _) hb2); clear hb2)
          | (go_at_call 13; (with_reducible refine (L2.out _ B2.out).mono ?_); rintro e w3 ⟨rfl, hb3⟩))
        go_ret
        exact ⟨rfl, below_of B2.out hb3⟩
      · have L1 := Lib.hid (fun (w' : World) (h : Below w.heap.size w w') => lex_bad w' s (by omega) (hG.below h) hL he)
        have L2 := Lib.hid (fun (w' : World) (h : Below w.heap.size w w') => wrong_first (bad := ⟨#[36]⟩) h3 (by decide) (hG.below h) hL he)
        have n1 : (e != 0) = true := by simpa using he
        clear hL hs hG he hm
        go_enter Tryd.func8, Tryd.ntmps8
        go_wp2_with (first
          | (go_at_call 9; (with_reducible refine LA.out.mono ?_); rintro e w1 ⟨rfl, hb1⟩; have B1 := Lib.hid hb1; clear hb1)
          | (go_at_call 13; (with_reducible refine (L1.out _ (B1.out.alloc B1.out.size _)).mono ?_); rintro e w2 ⟨rfl, hb2⟩; have B2 := Lib.hid (below_of (B1.out.alloc B1.out.size _) hb2); clear hb2)
          | (go_at_call 13; (with_reducible refine (L2.out _ B2.out).mono ?_); rintro e w3 ⟨rfl, hb3⟩))
        go_ret
        exact ⟨rfl, below_of B2.out hb3⟩
      · have L1 := Lib.hid (fun (w' : World) (h : Below w.heap.size w w') => lex_bad w' s (by omega) (hG.below h) hL he)
        have L2 := Lib.hid (fun (w' : World) (h : Below w.heap.size w w') => wrong_first (bad := ⟨#[45]⟩) h3 (by decide) (hG.below h) hL he)
        have n1 : (e != 0) = true := by simpa using he
        clear hL hs hG he hm
        go_enter Tryd.func8, Tryd.ntmps8
        go_wp2_with (first
          | (go_at_call 9; (with_reducible refine LA.out.mono ?_); rintro e w1 ⟨rfl, hb1⟩; have B1 := Lib.hid hb1; clear hb1)
          | (go_at_call 13; (with_reducible refine (L1.out _ (B1.out.alloc B1.out.size _)).mono ?_); rintro e w2 ⟨rfl, hb2⟩; have B2 := Lib.hid (below_of (B1.out.alloc B1.out.size _) hb2); clear hb2)
          | (go_at_call 13; (with_reducible refine (L2.out _ B2.out).mono ?_); rintro e w3 ⟨rfl, hb3⟩))
        go_ret
        exact ⟨rfl, below_of B2.out hb3⟩
      · have L1 := Lib.hid (fun (w' : World) (h : Below w.heap.size w w') => lex_bad w' s (by omega) (hG.below h) hL he)
        have L2 := Lib.hid (fun (w' : World) (h : Below w.heap.size w w') => wrong_first (bad := ⟨#[120, 121]⟩) h3 (by decide) (hG.below h) hL he)
        have n1 : (e != 0) = true := by simpa using he
        clear hL hs hG he hm
        go_enter Tryd.func8, Tryd.ntmps8
        go_wp2_with (first
          | (go_at_call 9; (with_reducible refine LA.out.mono ?_); rintro e w1 ⟨rfl, hb1⟩; have B1 := Lib.hid hb1; clear hb1)
          | (go_at_call 13; (with_reducible refine (L1.out _ (B1.out.alloc B1.out.size _)).mono ?_); rintro e w2 ⟨rfl, hb2⟩; have B2 := Lib.hid (below_of (B1.out.alloc B1.out.size _) hb2); clear hb2)
          | (go_at_call 13; (with_reducible refine (L2.out _ B2.out).mono ?_); rintro e w3 ⟨rfl, hb3⟩))
        go_ret
        exact ⟨rfl, below_of B2.out hb3⟩
      · have L1 := Lib.hid (fun (w' : World) (h : Below w.heap.size w w') => lex_bad w' s (by omega) (hG.below h) hL he)
        have L2 := Lib.hid (fun (w' : World) (h : Below w.heap.size w w') => wrong_first (bad := ⟨#[63]⟩) h3 (by decide) (hG.below h) hL he)
        have n1 : (e != 0) = true := by simpa using he
        clear hL hs hG he hm
        go_enter Tryd.func8, Tryd.ntmps8
        go_wp2_with (first
          | (go_at_call 9; (with_reducible refine LA.out.mono ?_); rintro e w1 ⟨rfl, hb1⟩; have B1 := Lib.hid hb1; clear hb1)
          | (go_at_call 13; (with_reducible refine (L1.out _ (B1.out.alloc B1.out.size _)).mono ?_); rintro e w2 ⟨rfl, hb2⟩; have B2 := Lib.hid (below_of (B1.out.alloc B1.out.size _) hb2); clear hb2)
          | (go_at_call 13; (with_reducible refine (L2.out _ B2.out).mono ?_); rintro e w3 ⟨rfl, hb3⟩))
        go_ret
        exact ⟨rfl, below_of B2.out hb3⟩
      · have L1 := Lib.hid (fun (w' : World) (h : Below w.heap.size w w') => lex_bad w' s (by omega) (hG.below h) hL he)
        have L2 := Lib.hid (fun (w' : World) (h : Below w.heap.size w w') => wrong_first (bad := ⟨#[128]⟩) h3 (by decide) (hG.below h) hL he)
        have n1 : (e != 0) = true := by simpa using he
        clear hL hs hG he hm
        go_enter Tryd.func8, Tryd.ntmps8
        go_wp2_with (first
          | (go_at_call 9; (with_reducible refine LA.out.mono ?_); rintro e w1 ⟨rfl, hb1⟩; have B1 := Lib.hid hb1; clear hb1)
          | (go_at_call 13; (with_reducible refine (L1.out _ (B1.out.alloc B1.out.size _)).mono ?_); rintro e w2 ⟨rfl, hb2⟩; have B2 := Lib.hid (below_of (B1.out.alloc B1.out.size _) hb2); clear hb2)
          | (go_at_call 13; (with_reducible refine (L2.out _ B2.out).mono ?_); rintro e w3 ⟨rfl, hb3⟩))
        go_ret
        exact ⟨rfl, below_of B2.out hb3⟩
  · have d3 : (1500 : Int) < (s.size : Int) := by omega
    clear hs hG
    go_enter Tryd.func8, Tryd.ntmps8
    go_wp2_with (go_at_call 9; (with_reducible refine LA.out.mono ?_); rintro e w1 ⟨rfl, hb1⟩)
    go_ret
    exact ⟨rfl, hb1⟩
end Go.Proofs.YtnihpcamooncjaaDoor
